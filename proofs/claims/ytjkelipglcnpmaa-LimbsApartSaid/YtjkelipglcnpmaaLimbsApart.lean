/- LimbsApart: the row, proved: the frame is law_lifted (Fr), the walk is f6.ok, the plain law is f6.holds. -/
import Derived.Test.YtjkelipglcnpmaaRows
import Derived.Test.YtjkelipglcnpmaaFr
import Derived.Test.YtjkelipglcnpmaaHd
import Derived.Test.YtjkelipglcnpmaaPlR2
namespace Go.Proofs.Ytjkelipglcnpmaa
open Go.VM

set_option maxRecDepth 100000 in
theorem limbsApart_lifted (os : Os) (started : os.Started) (H : Type) (enc : TypeId × Value → H) :
    ReturnsInHanded {} Try.checked os 6 .any (Rows.limbsApartSpec.pre6 enc Try.prog Try.f6 Rows.limbsApartRow.domain false) (Rows.limbsApartSpec.post enc Try.prog Try.f6 false true false false) := by
  refine law_lifted (C := Try.checked) (n := 8) (by kernel_rfl) started (by kernel_rfl) Try.func6
    (ChangeSpec.witness6 (enc := enc) (C := Try.checked) false ⟨#[], #[.agg #[.int .u64 0, .int .u64 0, .int .u64 0, .int .u64 0], .agg #[.int .u64 0, .int .u64 0, .int .u64 0, .int .u64 0]], []⟩ 8 (by kernel_rfl) (by kernel_rfl) (by kernel_rfl) (by kernel_rfl)) ?_ rfl (tb := 4) rfl Try.underlying4 ?_ ?_
  · have h : (Try.f6.params.toList.all fun t => flat Try.prog 8 t) = true := by kernel_rfl
    exact List.all_eq_true.1 h
  · intro ds hds
    obtain ⟨d0, d1, rfl⟩ := list2 (l := ds) hds
    rfl
  · intro W args hsz hr
    obtain ⟨v0, v1, rfl⟩ := args2 (args := args) hsz
    obtain ⟨a0, h0, rfl⟩ := reads_num Try.underlying24 Try.underlying22 (by kernel_rfl) (by kernel_rfl) (hr 0 24 v0 rfl rfl)
    obtain ⟨a1, h1, rfl⟩ := reads_num Try.underlying24 Try.underlying22 (by kernel_rfl) (by kernel_rfl) (hr 1 24 v1 rfl rfl)
    exact law_calls (f6.ok 1000) (fun _ => rfl) (vs := [.agg [.ints .u64 4 (num a0)], .agg [.ints .u64 4 (num a1)]]) (x := (num a0, num a1)) rfl (f6.holds a0 a1 h0 h1) rfl W

theorem limbsApart_c0 : (Rows.limbsApartRow.wf (OpenSpec.ofChange Rows.limbsApartSpec)) = true := by kernel_rfl
theorem limbsApart_c3 : (Try.f6.params.all (Try.prog.readableRec ·)) = true := by kernel_rfl
theorem limbsApart_c4 : (namedTie Try.prog Rows.limbsApartRow.named Rows.limbsApartSpec.vars) = true := by kernel_rfl
theorem limbsApart_c5 : (Rows.limbsApartRow.stops == []) = true := by kernel_rfl
theorem limbsApart_c6 : (Try.prog.stops == []) = true := by kernel_rfl
theorem limbsApart_c7 : (Rows.limbsApartRow.knobs == []) = true := by kernel_rfl
theorem limbsApart_c8 : (Try.prog.stopKnobs == []) = true := by kernel_rfl
theorem limbsApart_c9 : (Rows.limbsApartRow.inPlace == Try.prog.inPlace 6) = true := by kernel_rfl
theorem limbsApart_c10 : (Rows.limbsApartRow.unfollowed == Try.prog.unfollowed 6) = true := by kernel_rfl
theorem limbsApart_c11 : (Rows.limbsApartRow.recurses == Try.prog.recurses 6) = true := by kernel_rfl
theorem limbsApart_c12 : (Rows.limbsApartRow.named == Try.prog.varsNamed 6) = true := by kernel_rfl
theorem limbsApart_c13 : (Rows.limbsApartRow.maps == (Try.f6.params.toList ++ Rows.limbsApartSpec.plain.varTypes Try.prog).any (Try.prog.mapsRec ·)) = true := by kernel_rfl
theorem limbsApart_c14 : (Rows.limbsApartRow.ifaces == (Try.f6.params.toList ++ Rows.limbsApartSpec.plain.varTypes Try.prog).any (Try.prog.ifacesRec ·)) = true := by kernel_rfl
theorem limbsApart_c15 : (Rows.limbsApartRow.mapsOut == Try.prog.mapsAmong Try.f6.resultTypes.toList) = true := by kernel_rfl
theorem limbsApart_c16 : (Rows.limbsApartRow.loops == (Try.f6.params.toList ++ Rows.limbsApartSpec.plain.varTypes Try.prog).any (Try.prog.loopsFrom ·)) = true := by kernel_rfl
theorem limbsApart_c17 : (Rows.limbsApartRow.wideKeys == (Try.f6.params.toList ++ Rows.limbsApartSpec.plain.varTypes Try.prog ++ Try.f6.resultTypes.toList).any (Try.prog.wideKeysFrom ·)) = true := by kernel_rfl
theorem limbsApart_c18 : (Rows.limbsApartSpec.vars.all (Try.prog.varReadable ·)) = true := by kernel_rfl
theorem limbsApart_c19 : (Try.f6.resultTypes.all (fun t => Try.prog.readableRec t && decide (t < Try.prog.types.size))) = true := by kernel_rfl
theorem limbsApart_c20 : (Rows.limbsApartRow.ifacesOut == Try.f6.resultTypes.toList.any (Try.prog.ifacesRec ·)) = true := by kernel_rfl
theorem limbsApart_c21 : (Rows.limbsApartRow.loopsOut == Try.f6.resultTypes.toList.any (Try.prog.loopsFrom ·)) = true := by kernel_rfl
theorem limbsApart_c22 : (Rows.limbsApartRow.plainKeys == Try.prog.plainKeys) = true := beq_of plainKeys_ok
theorem limbsApart_c23 : (Rows.limbsApartRow.shortTexts.isNone) = true := by kernel_rfl
theorem limbsApart_c26 : (Rows.limbsApartRow.lifted == Try.prog.liftsFinal) = true := beq_of liftsFinal_ok
theorem limbsApart_c27 : (Try.prog.make == some Rows.limbsApartRow.make) = true := by rw [make_ok]; show _ = _; kernel_rfl
theorem limbsApart_c28 : (Rows.limbsApartRow.kinds == (if Rows.limbsApartRow.domain.isEmpty then [] else Try.f6.params.toList.map fun t => match Try.prog.underlying t with | some (.int k) => some k | _ => none)) = true := by kernel_rfl
theorem limbsApart_c29 : (Rows.limbsApartRow.pinned == Rows.limbsApartRow.pinnedBy) = true := by kernel_rfl
theorem limbsApart_c30 : (Rows.limbsApartRow.veiled == (Try.f6.params.toList ++ Rows.limbsApartSpec.plain.varTypes Try.prog ++ Try.f6.resultTypes.toList).any (Try.prog.veiledRec ·)) = true := by kernel_rfl
theorem limbsApart_c31 : (Rows.limbsApartRow.veiledFits Try.prog Try.f6.params.toList (Try.f6.params.toList ++ Rows.limbsApartSpec.plain.varTypes Try.prog ++ Try.f6.resultTypes.toList)) = true := by kernel_rfl
set_option maxRecDepth 1000000 in
theorem limbsApart_closed : joinedFacts Try.prog 6 Try.f6 Rows.limbsApartSpec Rows.limbsApartRow = true := (and2 (and2 (and2 (and2 (and2 (and2 (and2 (and2 (and2 (and2 (and2 (and2 (and2 (and2 (and2 (and2 (and2 (and2 (and2 (and2 (and2 (and2 (and2 (and2 (and2 (and2 (and2 (and2 (and2 (and2 (and2 limbsApart_c0 laidOut_ok) mapsRowed_ok) limbsApart_c3) limbsApart_c4) limbsApart_c5) limbsApart_c6) limbsApart_c7) limbsApart_c8) limbsApart_c9) limbsApart_c10) limbsApart_c11) limbsApart_c12) limbsApart_c13) limbsApart_c14) limbsApart_c15) limbsApart_c16) limbsApart_c17) limbsApart_c18) limbsApart_c19) limbsApart_c20) limbsApart_c21) limbsApart_c22) limbsApart_c23) stopsHeard_ok) mayEnter_ok) limbsApart_c26) limbsApart_c27) limbsApart_c28) limbsApart_c29) limbsApart_c30) limbsApart_c31)

theorem limbsApart_holds : Rows.LimbsApartSaid :=
  OpenClaim.holds_of_wide 6 Try.f6 rfl rfl rfl rfl rfl rfl rfl ⟨rfl, rfl, rfl, rfl, rfl⟩ rfl rfl rfl rfl rfl (by kernel_rfl) Try.func6 limbsApart_closed
    (of_decide_eq_true (by kernel_rfl)) (by unfold Func.isWrapper; first | (rw [if_pos (by decide +kernel)]; kernel_rfl) | (rw [if_neg (by decide +kernel)]; exact ⟨rfl, rfl⟩))
    (fun os started H enc _ => limbsApart_lifted os started H enc)

end Go.Proofs.Ytjkelipglcnpmaa

