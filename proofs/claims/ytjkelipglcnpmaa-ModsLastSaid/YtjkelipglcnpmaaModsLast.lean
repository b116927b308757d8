/- ModsLast: the row, proved: the frame is law_lifted (Fr), the walk is f19.ok, the plain law is f19.holds. -/
import Derived.Test.YtjkelipglcnpmaaFr
import Derived.Test.YtjkelipglcnpmaaPm
import Derived.Test.YtjkelipglcnpmaaRows
namespace Go.Proofs.Ytjkelipglcnpmaa
open Go.VM

set_option maxRecDepth 100000 in
theorem modsLast_lifted (os : Os) (started : os.Started) (H : Type) (enc : TypeId × Value → H) :
    ReturnsInHanded {} Try.checked os 19 .any (Rows.modsLastSpec.pre6 enc Try.prog Try.f19 Rows.modsLastRow.domain false) (Rows.modsLastSpec.post enc Try.prog Try.f19 false true false false) := by
  refine law_lifted (C := Try.checked) (n := 8) (by kernel_rfl) started (by kernel_rfl) Try.func19
    (ChangeSpec.witness6 (enc := enc) (C := Try.checked) false ⟨#[], #[.agg #[.int .u64 0, .int .u64 0, .int .u64 0, .int .u64 0], .agg #[.int .u64 0, .int .u64 0, .int .u64 0, .int .u64 0]], []⟩ 8 (by kernel_rfl) (by kernel_rfl) (by kernel_rfl) (by kernel_rfl)) ?_ rfl (tb := 4) rfl Try.underlying4 ?_ ?_
  · have h : (Try.f19.params.toList.all fun t => flat Try.prog 8 t) = true := by kernel_rfl
    exact List.all_eq_true.1 h
  · intro ds hds
    obtain ⟨d0, d1, rfl⟩ := list2 (l := ds) hds
    rfl
  · intro W args hsz hr
    obtain ⟨v0, v1, rfl⟩ := args2 (args := args) hsz
    obtain ⟨a0, h0, rfl⟩ := reads_num Try.underlying24 Try.underlying22 (by kernel_rfl) (by kernel_rfl) (hr 0 24 v0 rfl rfl)
    obtain ⟨a1, h1, rfl⟩ := reads_num Try.underlying24 Try.underlying22 (by kernel_rfl) (by kernel_rfl) (hr 1 24 v1 rfl rfl)
    exact law_calls (f19.ok 1000) (vs := [.agg [.ints .u64 4 (num a0)], .agg [.ints .u64 4 (num a1)]]) (x := (num a0, num a1)) (f19.holds a0 a1 h0 h1) (fun _ => by kernel_rfl) rfl W

theorem modsLast_c0 : (Rows.modsLastRow.wf (OpenSpec.ofChange Rows.modsLastSpec)) = true := by kernel_rfl
theorem modsLast_c3 : (Try.f19.params.all (Try.prog.readableRec ·)) = true := by kernel_rfl
theorem modsLast_c4 : (namedTie Try.prog Rows.modsLastRow.named Rows.modsLastSpec.vars) = true := by kernel_rfl
theorem modsLast_c5 : (Rows.modsLastRow.stops == []) = true := by kernel_rfl
theorem modsLast_c6 : (Try.prog.stops == []) = true := by kernel_rfl
theorem modsLast_c7 : (Rows.modsLastRow.knobs == []) = true := by kernel_rfl
theorem modsLast_c8 : (Try.prog.stopKnobs == []) = true := by kernel_rfl
theorem modsLast_c9 : (Rows.modsLastRow.inPlace == Try.prog.inPlace 19) = true := by kernel_rfl
theorem modsLast_c10 : (Rows.modsLastRow.unfollowed == Try.prog.unfollowed 19) = true := by kernel_rfl
theorem modsLast_c11 : (Rows.modsLastRow.recurses == Try.prog.recurses 19) = true := by kernel_rfl
theorem modsLast_c12 : (Rows.modsLastRow.named == Try.prog.varsNamed 19) = true := by kernel_rfl
theorem modsLast_c13 : (Rows.modsLastRow.maps == (Try.f19.params.toList ++ Rows.modsLastSpec.plain.varTypes Try.prog).any (Try.prog.mapsRec ·)) = true := by kernel_rfl
theorem modsLast_c14 : (Rows.modsLastRow.ifaces == (Try.f19.params.toList ++ Rows.modsLastSpec.plain.varTypes Try.prog).any (Try.prog.ifacesRec ·)) = true := by kernel_rfl
theorem modsLast_c15 : (Rows.modsLastRow.mapsOut == Try.prog.mapsAmong Try.f19.resultTypes.toList) = true := by kernel_rfl
theorem modsLast_c16 : (Rows.modsLastRow.loops == (Try.f19.params.toList ++ Rows.modsLastSpec.plain.varTypes Try.prog).any (Try.prog.loopsFrom ·)) = true := by kernel_rfl
theorem modsLast_c17 : (Rows.modsLastRow.wideKeys == (Try.f19.params.toList ++ Rows.modsLastSpec.plain.varTypes Try.prog ++ Try.f19.resultTypes.toList).any (Try.prog.wideKeysFrom ·)) = true := by kernel_rfl
theorem modsLast_c18 : (Rows.modsLastSpec.vars.all (Try.prog.varReadable ·)) = true := by kernel_rfl
theorem modsLast_c19 : (Try.f19.resultTypes.all (fun t => Try.prog.readableRec t && decide (t < Try.prog.types.size))) = true := by kernel_rfl
theorem modsLast_c20 : (Rows.modsLastRow.ifacesOut == Try.f19.resultTypes.toList.any (Try.prog.ifacesRec ·)) = true := by kernel_rfl
theorem modsLast_c21 : (Rows.modsLastRow.loopsOut == Try.f19.resultTypes.toList.any (Try.prog.loopsFrom ·)) = true := by kernel_rfl
theorem modsLast_c22 : (Rows.modsLastRow.plainKeys == Try.prog.plainKeys) = true := beq_of plainKeys_ok
theorem modsLast_c23 : (Rows.modsLastRow.shortTexts.isNone) = true := by kernel_rfl
theorem modsLast_c26 : (Rows.modsLastRow.lifted == Try.prog.liftsFinal) = true := beq_of liftsFinal_ok
theorem modsLast_c27 : (Try.prog.make == some Rows.modsLastRow.make) = true := by rw [make_ok]; show _ = _; kernel_rfl
theorem modsLast_c28 : (Rows.modsLastRow.kinds == (if Rows.modsLastRow.domain.isEmpty then [] else Try.f19.params.toList.map fun t => match Try.prog.underlying t with | some (.int k) => some k | _ => none)) = true := by kernel_rfl
theorem modsLast_c29 : (Rows.modsLastRow.pinned == Rows.modsLastRow.pinnedBy) = true := by kernel_rfl
theorem modsLast_c30 : (Rows.modsLastRow.veiled == (Try.f19.params.toList ++ Rows.modsLastSpec.plain.varTypes Try.prog ++ Try.f19.resultTypes.toList).any (Try.prog.veiledRec ·)) = true := by kernel_rfl
theorem modsLast_c31 : (Rows.modsLastRow.veiledFits Try.prog Try.f19.params.toList (Try.f19.params.toList ++ Rows.modsLastSpec.plain.varTypes Try.prog ++ Try.f19.resultTypes.toList)) = true := by kernel_rfl
set_option maxRecDepth 1000000 in
theorem modsLast_closed : joinedFacts Try.prog 19 Try.f19 Rows.modsLastSpec Rows.modsLastRow = true := (and2 (and2 (and2 (and2 (and2 (and2 (and2 (and2 (and2 (and2 (and2 (and2 (and2 (and2 (and2 (and2 (and2 (and2 (and2 (and2 (and2 (and2 (and2 (and2 (and2 (and2 (and2 (and2 (and2 (and2 (and2 modsLast_c0 laidOut_ok) mapsRowed_ok) modsLast_c3) modsLast_c4) modsLast_c5) modsLast_c6) modsLast_c7) modsLast_c8) modsLast_c9) modsLast_c10) modsLast_c11) modsLast_c12) modsLast_c13) modsLast_c14) modsLast_c15) modsLast_c16) modsLast_c17) modsLast_c18) modsLast_c19) modsLast_c20) modsLast_c21) modsLast_c22) modsLast_c23) stopsHeard_ok) mayEnter_ok) modsLast_c26) modsLast_c27) modsLast_c28) modsLast_c29) modsLast_c30) modsLast_c31)

theorem modsLast_holds : Rows.ModsLastSaid :=
  OpenClaim.holds_of_wide 19 Try.f19 rfl rfl rfl rfl rfl rfl rfl ⟨rfl, rfl, rfl, rfl, rfl⟩ rfl rfl rfl rfl rfl (by kernel_rfl) Try.func19 modsLast_closed
    (of_decide_eq_true (by kernel_rfl)) (by unfold Func.isWrapper; first | (rw [if_pos (by decide +kernel)]; kernel_rfl) | (rw [if_neg (by decide +kernel)]; exact ⟨rfl, rfl⟩))
    (fun os started H enc _ => modsLast_lifted os started H enc)

end Go.Proofs.Ytjkelipglcnpmaa
