/- GroupsOf: the row, proved: the frame is law_lifted (Fr), the walk is f24.ok, the plain law is f24.holds. -/
import Derived.Test.YtjkelipglcnpmaaFr
import Derived.Test.YtjkelipglcnpmaaFs
import Derived.Test.YtjkelipglcnpmaaPz
import Derived.Test.YtjkelipglcnpmaaRows
namespace Go.Proofs.Ytjkelipglcnpmaa
open Go.VM

set_option maxRecDepth 100000 in
theorem groupsOf_lifted (os : Os) (started : os.Started) (H : Type) (enc : TypeId × Value → H) :
    ReturnsInHanded {} Try.checked os 24 .any (Rows.groupsOfSpec.pre6 enc Try.prog Try.f24 Rows.groupsOfRow.domain false) (Rows.groupsOfSpec.post enc Try.prog Try.f24 false true false false) := by
  refine law_lifted (C := Try.checked) (n := 8) (by kernel_rfl) started (by kernel_rfl) Try.func24
    (ChangeSpec.witness6 (enc := enc) (C := Try.checked) false ⟨#[], #[.agg #[.int .u64 0, .int .u64 0, .int .u64 0, .int .u64 0, .int .u64 0, .int .u64 0, .int .u64 0, .int .u64 0, .int .u64 0, .int .u64 0, .int .u64 0, .int .u64 0], .agg #[.int .u64 0, .int .u64 0, .int .u64 0, .int .u64 0], .agg #[.int .u64 0, .int .u64 0, .int .u64 0, .int .u64 0]], []⟩ 8 (by kernel_rfl) (by kernel_rfl) (by kernel_rfl) (by kernel_rfl)) ?_ rfl (tb := 4) rfl Try.underlying4 ?_ ?_
  · have h : (Try.f24.params.toList.all fun t => flat Try.prog 8 t) = true := by kernel_rfl
    exact List.all_eq_true.1 h
  · intro ds hds
    obtain ⟨d0, d1, d2, rfl⟩ := list3 (l := ds) hds
    rfl
  · intro W args hsz hr
    obtain ⟨v0, v1, v2, rfl⟩ := args3 (args := args) hsz
    obtain ⟨a0_0, a0_1, a0_2, h0_0, h0_1, h0_2, rfl⟩ := reads3 Try.underlying24 Try.underlying22 (by kernel_rfl) (by kernel_rfl) Try.underlying57 ⟨rfl, rfl⟩ ⟨rfl, rfl⟩ ⟨rfl, rfl⟩ (by kernel_rfl) (hr 0 57 v0 rfl rfl)
    obtain ⟨a1, h1, rfl⟩ := reads_num Try.underlying24 Try.underlying22 (by kernel_rfl) (by kernel_rfl) (hr 1 24 v1 rfl rfl)
    obtain ⟨a2, h2, rfl⟩ := reads_num Try.underlying24 Try.underlying22 (by kernel_rfl) (by kernel_rfl) (hr 2 24 v2 rfl rfl)
    exact law_calls (f24.ok 100000) (vs := [.agg [.ints .u64 4 (num a0_0), .ints .u64 4 (num a0_1), .ints .u64 4 (num a0_2)], .agg [.ints .u64 4 (num a1)], .agg [.ints .u64 4 (num a2)]]) (x := (num a0_0, num a0_1, num a0_2, num a1, num a2)) (f24.holds a0_0 a0_1 a0_2 a1 a2 h0_0 h0_1 h0_2 h1 h2) (fun _ => by kernel_rfl) rfl W

theorem groupsOf_c0 : (Rows.groupsOfRow.wf (OpenSpec.ofChange Rows.groupsOfSpec)) = true := by kernel_rfl
theorem groupsOf_c3 : (Try.f24.params.all (Try.prog.readableRec ·)) = true := by kernel_rfl
theorem groupsOf_c4 : (namedTie Try.prog Rows.groupsOfRow.named Rows.groupsOfSpec.vars) = true := by kernel_rfl
theorem groupsOf_c5 : (Rows.groupsOfRow.stops == []) = true := by kernel_rfl
theorem groupsOf_c6 : (Try.prog.stops == []) = true := by kernel_rfl
theorem groupsOf_c7 : (Rows.groupsOfRow.knobs == []) = true := by kernel_rfl
theorem groupsOf_c8 : (Try.prog.stopKnobs == []) = true := by kernel_rfl
theorem groupsOf_c9 : (Rows.groupsOfRow.inPlace == Try.prog.inPlace 24) = true := by kernel_rfl
theorem groupsOf_c10 : (Rows.groupsOfRow.unfollowed == Try.prog.unfollowed 24) = true := by kernel_rfl
theorem groupsOf_c11 : (Rows.groupsOfRow.recurses == Try.prog.recurses 24) = true := by kernel_rfl
theorem groupsOf_c12 : (Rows.groupsOfRow.named == Try.prog.varsNamed 24) = true := by kernel_rfl
theorem groupsOf_c13 : (Rows.groupsOfRow.maps == (Try.f24.params.toList ++ Rows.groupsOfSpec.plain.varTypes Try.prog).any (Try.prog.mapsRec ·)) = true := by kernel_rfl
theorem groupsOf_c14 : (Rows.groupsOfRow.ifaces == (Try.f24.params.toList ++ Rows.groupsOfSpec.plain.varTypes Try.prog).any (Try.prog.ifacesRec ·)) = true := by kernel_rfl
theorem groupsOf_c15 : (Rows.groupsOfRow.mapsOut == Try.prog.mapsAmong Try.f24.resultTypes.toList) = true := by kernel_rfl
theorem groupsOf_c16 : (Rows.groupsOfRow.loops == (Try.f24.params.toList ++ Rows.groupsOfSpec.plain.varTypes Try.prog).any (Try.prog.loopsFrom ·)) = true := by kernel_rfl
theorem groupsOf_c17 : (Rows.groupsOfRow.wideKeys == (Try.f24.params.toList ++ Rows.groupsOfSpec.plain.varTypes Try.prog ++ Try.f24.resultTypes.toList).any (Try.prog.wideKeysFrom ·)) = true := by kernel_rfl
theorem groupsOf_c18 : (Rows.groupsOfSpec.vars.all (Try.prog.varReadable ·)) = true := by kernel_rfl
theorem groupsOf_c19 : (Try.f24.resultTypes.all (fun t => Try.prog.readableRec t && decide (t < Try.prog.types.size))) = true := by kernel_rfl
theorem groupsOf_c20 : (Rows.groupsOfRow.ifacesOut == Try.f24.resultTypes.toList.any (Try.prog.ifacesRec ·)) = true := by kernel_rfl
theorem groupsOf_c21 : (Rows.groupsOfRow.loopsOut == Try.f24.resultTypes.toList.any (Try.prog.loopsFrom ·)) = true := by kernel_rfl
theorem groupsOf_c22 : (Rows.groupsOfRow.plainKeys == Try.prog.plainKeys) = true := beq_of plainKeys_ok
theorem groupsOf_c23 : (Rows.groupsOfRow.shortTexts.isNone) = true := by kernel_rfl
theorem groupsOf_c26 : (Rows.groupsOfRow.lifted == Try.prog.liftsFinal) = true := beq_of liftsFinal_ok
theorem groupsOf_c27 : (Try.prog.make == some Rows.groupsOfRow.make) = true := by rw [make_ok]; show _ = _; kernel_rfl
theorem groupsOf_c28 : (Rows.groupsOfRow.kinds == (if Rows.groupsOfRow.domain.isEmpty then [] else Try.f24.params.toList.map fun t => match Try.prog.underlying t with | some (.int k) => some k | _ => none)) = true := by kernel_rfl
theorem groupsOf_c29 : (Rows.groupsOfRow.pinned == Rows.groupsOfRow.pinnedBy) = true := by kernel_rfl
theorem groupsOf_c30 : (Rows.groupsOfRow.veiled == (Try.f24.params.toList ++ Rows.groupsOfSpec.plain.varTypes Try.prog ++ Try.f24.resultTypes.toList).any (Try.prog.veiledRec ·)) = true := by kernel_rfl
theorem groupsOf_c31 : (Rows.groupsOfRow.veiledFits Try.prog Try.f24.params.toList (Try.f24.params.toList ++ Rows.groupsOfSpec.plain.varTypes Try.prog ++ Try.f24.resultTypes.toList)) = true := by kernel_rfl
set_option maxRecDepth 1000000 in
theorem groupsOf_closed : joinedFacts Try.prog 24 Try.f24 Rows.groupsOfSpec Rows.groupsOfRow = true := (and2 (and2 (and2 (and2 (and2 (and2 (and2 (and2 (and2 (and2 (and2 (and2 (and2 (and2 (and2 (and2 (and2 (and2 (and2 (and2 (and2 (and2 (and2 (and2 (and2 (and2 (and2 (and2 (and2 (and2 (and2 groupsOf_c0 laidOut_ok) mapsRowed_ok) groupsOf_c3) groupsOf_c4) groupsOf_c5) groupsOf_c6) groupsOf_c7) groupsOf_c8) groupsOf_c9) groupsOf_c10) groupsOf_c11) groupsOf_c12) groupsOf_c13) groupsOf_c14) groupsOf_c15) groupsOf_c16) groupsOf_c17) groupsOf_c18) groupsOf_c19) groupsOf_c20) groupsOf_c21) groupsOf_c22) groupsOf_c23) stopsHeard_ok) mayEnter_ok) groupsOf_c26) groupsOf_c27) groupsOf_c28) groupsOf_c29) groupsOf_c30) groupsOf_c31)

theorem groupsOf_holds : Rows.GroupsOfSaid :=
  OpenClaim.holds_of_wide 24 Try.f24 rfl rfl rfl rfl rfl rfl rfl ⟨rfl, rfl, rfl, rfl, rfl⟩ rfl rfl rfl rfl rfl (by kernel_rfl) Try.func24 groupsOf_closed
    (of_decide_eq_true (by kernel_rfl)) (by unfold Func.isWrapper; first | (rw [if_pos (by decide +kernel)]; kernel_rfl) | (rw [if_neg (by decide +kernel)]; exact ⟨rfl, rfl⟩))
    (fun os started H enc _ => groupsOf_lifted os started H enc)

end Go.Proofs.Ytjkelipglcnpmaa
