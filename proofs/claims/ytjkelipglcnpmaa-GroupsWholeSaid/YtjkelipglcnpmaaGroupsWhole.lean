/- GroupsWhole: the row, proved: the frame is law_lifted (Fr), the walk is f28.ok, the plain law is f28.holds. -/
import Derived.Test.YtjkelipglcnpmaaFr
import Derived.Test.YtjkelipglcnpmaaFs
import Derived.Test.YtjkelipglcnpmaaPg
import Derived.Test.YtjkelipglcnpmaaRows
namespace Go.Proofs.Ytjkelipglcnpmaa
open Go.VM

set_option maxRecDepth 100000 in
theorem groupsWhole_lifted (os : Os) (started : os.Started) (H : Type) (enc : TypeId × Value → H) :
    ReturnsInHanded {} Try.checked os 28 .any (Rows.groupsWholeSpec.pre6 enc Try.prog Try.f28 Rows.groupsWholeRow.domain false) (Rows.groupsWholeSpec.post enc Try.prog Try.f28 false true false false) := by
  refine law_lifted (C := Try.checked) (n := 8) (by kernel_rfl) started (by kernel_rfl) Try.func28
    (ChangeSpec.witness6 (enc := enc) (C := Try.checked) false ⟨#[], #[.agg #[.int .u64 0, .int .u64 0, .int .u64 0, .int .u64 0, .int .u64 0, .int .u64 0, .int .u64 0, .int .u64 0, .int .u64 0, .int .u64 0, .int .u64 0, .int .u64 0], .agg #[.int .u64 0, .int .u64 0, .int .u64 0, .int .u64 0], .agg #[.int .u64 0, .int .u64 0, .int .u64 0, .int .u64 0]], []⟩ 8 (by kernel_rfl) (by kernel_rfl) (by kernel_rfl) (by kernel_rfl)) ?_ rfl (tb := 4) rfl Try.underlying4 ?_ ?_
  · have h : (Try.f28.params.toList.all fun t => flat Try.prog 8 t) = true := by kernel_rfl
    exact List.all_eq_true.1 h
  · intro ds hds
    obtain ⟨d0, d1, d2, rfl⟩ := list3 (l := ds) hds
    rfl
  · intro W args hsz hr
    obtain ⟨v0, v1, v2, rfl⟩ := args3 (args := args) hsz
    obtain ⟨a0_0, a0_1, a0_2, h0_0, h0_1, h0_2, rfl⟩ := reads3 Try.underlying24 Try.underlying22 (by kernel_rfl) (by kernel_rfl) Try.underlying57 ⟨rfl, rfl⟩ ⟨rfl, rfl⟩ ⟨rfl, rfl⟩ (by kernel_rfl) (hr 0 57 v0 rfl rfl)
    obtain ⟨a1, h1, rfl⟩ := reads_num Try.underlying24 Try.underlying22 (by kernel_rfl) (by kernel_rfl) (hr 1 24 v1 rfl rfl)
    obtain ⟨a2, h2, rfl⟩ := reads_num Try.underlying24 Try.underlying22 (by kernel_rfl) (by kernel_rfl) (hr 2 24 v2 rfl rfl)
    exact law_calls (f28.ok 1000) (vs := [.agg [.ints .u64 4 (num a0_0), .ints .u64 4 (num a0_1), .ints .u64 4 (num a0_2)], .agg [.ints .u64 4 (num a1)], .agg [.ints .u64 4 (num a2)]]) (x := (num a0_0, num a0_1, num a0_2, num a1, num a2)) (f28.holds a0_0 a0_1 a0_2 a1 a2 h0_0 h0_1 h0_2 h1 h2) (fun _ => by kernel_rfl) rfl W

theorem groupsWhole_c0 : (Rows.groupsWholeRow.wf (OpenSpec.ofChange Rows.groupsWholeSpec)) = true := by kernel_rfl
theorem groupsWhole_c3 : (Try.f28.params.all (Try.prog.readableRec ·)) = true := by kernel_rfl
theorem groupsWhole_c4 : (namedTie Try.prog Rows.groupsWholeRow.named Rows.groupsWholeSpec.vars) = true := by kernel_rfl
theorem groupsWhole_c5 : (Rows.groupsWholeRow.stops == []) = true := by kernel_rfl
theorem groupsWhole_c6 : (Try.prog.stops == []) = true := by kernel_rfl
theorem groupsWhole_c7 : (Rows.groupsWholeRow.knobs == []) = true := by kernel_rfl
theorem groupsWhole_c8 : (Try.prog.stopKnobs == []) = true := by kernel_rfl
theorem groupsWhole_c9 : (Rows.groupsWholeRow.inPlace == Try.prog.inPlace 28) = true := by kernel_rfl
theorem groupsWhole_c10 : (Rows.groupsWholeRow.unfollowed == Try.prog.unfollowed 28) = true := by kernel_rfl
theorem groupsWhole_c11 : (Rows.groupsWholeRow.recurses == Try.prog.recurses 28) = true := by kernel_rfl
theorem groupsWhole_c12 : (Rows.groupsWholeRow.named == Try.prog.varsNamed 28) = true := by kernel_rfl
theorem groupsWhole_c13 : (Rows.groupsWholeRow.maps == (Try.f28.params.toList ++ Rows.groupsWholeSpec.plain.varTypes Try.prog).any (Try.prog.mapsRec ·)) = true := by kernel_rfl
theorem groupsWhole_c14 : (Rows.groupsWholeRow.ifaces == (Try.f28.params.toList ++ Rows.groupsWholeSpec.plain.varTypes Try.prog).any (Try.prog.ifacesRec ·)) = true := by kernel_rfl
theorem groupsWhole_c15 : (Rows.groupsWholeRow.mapsOut == Try.prog.mapsAmong Try.f28.resultTypes.toList) = true := by kernel_rfl
theorem groupsWhole_c16 : (Rows.groupsWholeRow.loops == (Try.f28.params.toList ++ Rows.groupsWholeSpec.plain.varTypes Try.prog).any (Try.prog.loopsFrom ·)) = true := by kernel_rfl
theorem groupsWhole_c17 : (Rows.groupsWholeRow.wideKeys == (Try.f28.params.toList ++ Rows.groupsWholeSpec.plain.varTypes Try.prog ++ Try.f28.resultTypes.toList).any (Try.prog.wideKeysFrom ·)) = true := by kernel_rfl
theorem groupsWhole_c18 : (Rows.groupsWholeSpec.vars.all (Try.prog.varReadable ·)) = true := by kernel_rfl
theorem groupsWhole_c19 : (Try.f28.resultTypes.all (fun t => Try.prog.readableRec t && decide (t < Try.prog.types.size))) = true := by kernel_rfl
theorem groupsWhole_c20 : (Rows.groupsWholeRow.ifacesOut == Try.f28.resultTypes.toList.any (Try.prog.ifacesRec ·)) = true := by kernel_rfl
theorem groupsWhole_c21 : (Rows.groupsWholeRow.loopsOut == Try.f28.resultTypes.toList.any (Try.prog.loopsFrom ·)) = true := by kernel_rfl
theorem groupsWhole_c22 : (Rows.groupsWholeRow.plainKeys == Try.prog.plainKeys) = true := beq_of plainKeys_ok
theorem groupsWhole_c23 : (Rows.groupsWholeRow.shortTexts.isNone) = true := by kernel_rfl
theorem groupsWhole_c26 : (Rows.groupsWholeRow.lifted == Try.prog.liftsFinal) = true := beq_of liftsFinal_ok
theorem groupsWhole_c27 : (Try.prog.make == some Rows.groupsWholeRow.make) = true := by rw [make_ok]; show _ = _; kernel_rfl
theorem groupsWhole_c28 : (Rows.groupsWholeRow.kinds == (if Rows.groupsWholeRow.domain.isEmpty then [] else Try.f28.params.toList.map fun t => match Try.prog.underlying t with | some (.int k) => some k | _ => none)) = true := by kernel_rfl
theorem groupsWhole_c29 : (Rows.groupsWholeRow.pinned == Rows.groupsWholeRow.pinnedBy) = true := by kernel_rfl
theorem groupsWhole_c30 : (Rows.groupsWholeRow.veiled == (Try.f28.params.toList ++ Rows.groupsWholeSpec.plain.varTypes Try.prog ++ Try.f28.resultTypes.toList).any (Try.prog.veiledRec ·)) = true := by kernel_rfl
theorem groupsWhole_c31 : (Rows.groupsWholeRow.veiledFits Try.prog Try.f28.params.toList (Try.f28.params.toList ++ Rows.groupsWholeSpec.plain.varTypes Try.prog ++ Try.f28.resultTypes.toList)) = true := by kernel_rfl
set_option maxRecDepth 1000000 in
theorem groupsWhole_closed : joinedFacts Try.prog 28 Try.f28 Rows.groupsWholeSpec Rows.groupsWholeRow = true := (and2 (and2 (and2 (and2 (and2 (and2 (and2 (and2 (and2 (and2 (and2 (and2 (and2 (and2 (and2 (and2 (and2 (and2 (and2 (and2 (and2 (and2 (and2 (and2 (and2 (and2 (and2 (and2 (and2 (and2 (and2 groupsWhole_c0 laidOut_ok) mapsRowed_ok) groupsWhole_c3) groupsWhole_c4) groupsWhole_c5) groupsWhole_c6) groupsWhole_c7) groupsWhole_c8) groupsWhole_c9) groupsWhole_c10) groupsWhole_c11) groupsWhole_c12) groupsWhole_c13) groupsWhole_c14) groupsWhole_c15) groupsWhole_c16) groupsWhole_c17) groupsWhole_c18) groupsWhole_c19) groupsWhole_c20) groupsWhole_c21) groupsWhole_c22) groupsWhole_c23) stopsHeard_ok) mayEnter_ok) groupsWhole_c26) groupsWhole_c27) groupsWhole_c28) groupsWhole_c29) groupsWhole_c30) groupsWhole_c31)

theorem groupsWhole_holds : Rows.GroupsWholeSaid :=
  OpenClaim.holds_of_wide 28 Try.f28 rfl rfl rfl rfl rfl rfl rfl ⟨rfl, rfl, rfl, rfl, rfl⟩ rfl rfl rfl rfl rfl (by kernel_rfl) Try.func28 groupsWhole_closed
    (of_decide_eq_true (by kernel_rfl)) (by unfold Func.isWrapper; first | (rw [if_pos (by decide +kernel)]; kernel_rfl) | (rw [if_neg (by decide +kernel)]; exact ⟨rfl, rfl⟩))
    (fun os started H enc _ => groupsWhole_lifted os started H enc)

end Go.Proofs.Ytjkelipglcnpmaa
