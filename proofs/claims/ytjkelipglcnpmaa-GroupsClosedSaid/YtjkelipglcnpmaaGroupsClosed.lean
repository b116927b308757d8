/- GroupsClosed: the row, proved: the frame is law_lifted (Fr), the walk is f25.ok, the plain law is f25.holds. -/
import Derived.Test.YtjkelipglcnpmaaFr
import Derived.Test.YtjkelipglcnpmaaFs
import Derived.Test.YtjkelipglcnpmaaPg
import Derived.Test.YtjkelipglcnpmaaRows
namespace Go.Proofs.Ytjkelipglcnpmaa
open Go.VM

set_option maxRecDepth 100000 in
theorem groupsClosed_lifted (os : Os) (started : os.Started) (H : Type) (enc : TypeId × Value → H) :
    ReturnsInHanded {} Try.checked os 25 .any (Rows.groupsClosedSpec.pre6 enc Try.prog Try.f25 Rows.groupsClosedRow.domain false) (Rows.groupsClosedSpec.post enc Try.prog Try.f25 false true false false) := by
  refine law_lifted (C := Try.checked) (n := 8) (by kernel_rfl) started (by kernel_rfl) Try.func25
    (ChangeSpec.witness6 (enc := enc) (C := Try.checked) false ⟨#[], #[.agg #[.int .u64 0, .int .u64 0, .int .u64 0, .int .u64 0, .int .u64 0, .int .u64 0, .int .u64 0, .int .u64 0, .int .u64 0, .int .u64 0, .int .u64 0, .int .u64 0, .int .u64 0, .int .u64 0, .int .u64 0, .int .u64 0, .int .u64 0, .int .u64 0, .int .u64 0, .int .u64 0, .int .u64 0, .int .u64 0, .int .u64 0, .int .u64 0]], []⟩ 8 (by kernel_rfl) (by kernel_rfl) (by kernel_rfl) (by kernel_rfl)) ?_ rfl (tb := 4) rfl Try.underlying4 ?_ ?_
  · have h : (Try.f25.params.toList.all fun t => flat Try.prog 8 t) = true := by kernel_rfl
    exact List.all_eq_true.1 h
  · intro ds hds
    obtain ⟨d0, rfl⟩ := list1 (l := ds) hds
    rfl
  · intro W args hsz hr
    obtain ⟨v0, rfl⟩ := args1 (args := args) hsz
    obtain ⟨a0_0, a0_1, a0_2, a0_3, a0_4, a0_5, h0_0, h0_1, h0_2, h0_3, h0_4, h0_5, rfl⟩ := reads6 Try.underlying24 Try.underlying22 (by kernel_rfl) (by kernel_rfl) Try.underlying57 ⟨rfl, rfl⟩ ⟨rfl, rfl⟩ ⟨rfl, rfl⟩ (by kernel_rfl) Try.underlying64 ⟨rfl, rfl⟩ ⟨rfl, rfl⟩ ⟨rfl, rfl⟩ ⟨rfl, rfl⟩ (by kernel_rfl) (hr 0 64 v0 rfl rfl)
    exact law_calls (f25.ok 1000) (vs := [.agg [.ints .u64 4 (num a0_0), .ints .u64 4 (num a0_1), .ints .u64 4 (num a0_2), .ints .u64 4 (num a0_3), .ints .u64 4 (num a0_4), .ints .u64 4 (num a0_5)]]) (x := (num a0_0, num a0_1, num a0_2, num a0_3, num a0_4, num a0_5)) (f25.holds a0_0 a0_1 a0_2 a0_3 a0_4 a0_5 h0_0 h0_1 h0_2 h0_3 h0_4 h0_5) (fun _ => by kernel_rfl) rfl W

theorem groupsClosed_c0 : (Rows.groupsClosedRow.wf (OpenSpec.ofChange Rows.groupsClosedSpec)) = true := by kernel_rfl
theorem groupsClosed_c3 : (Try.f25.params.all (Try.prog.readableRec ·)) = true := by kernel_rfl
theorem groupsClosed_c4 : (namedTie Try.prog Rows.groupsClosedRow.named Rows.groupsClosedSpec.vars) = true := by kernel_rfl
theorem groupsClosed_c5 : (Rows.groupsClosedRow.stops == []) = true := by kernel_rfl
theorem groupsClosed_c6 : (Try.prog.stops == []) = true := by kernel_rfl
theorem groupsClosed_c7 : (Rows.groupsClosedRow.knobs == []) = true := by kernel_rfl
theorem groupsClosed_c8 : (Try.prog.stopKnobs == []) = true := by kernel_rfl
theorem groupsClosed_c9 : (Rows.groupsClosedRow.inPlace == Try.prog.inPlace 25) = true := by kernel_rfl
theorem groupsClosed_c10 : (Rows.groupsClosedRow.unfollowed == Try.prog.unfollowed 25) = true := by kernel_rfl
theorem groupsClosed_c11 : (Rows.groupsClosedRow.recurses == Try.prog.recurses 25) = true := by kernel_rfl
theorem groupsClosed_c12 : (Rows.groupsClosedRow.named == Try.prog.varsNamed 25) = true := by kernel_rfl
theorem groupsClosed_c13 : (Rows.groupsClosedRow.maps == (Try.f25.params.toList ++ Rows.groupsClosedSpec.plain.varTypes Try.prog).any (Try.prog.mapsRec ·)) = true := by kernel_rfl
theorem groupsClosed_c14 : (Rows.groupsClosedRow.ifaces == (Try.f25.params.toList ++ Rows.groupsClosedSpec.plain.varTypes Try.prog).any (Try.prog.ifacesRec ·)) = true := by kernel_rfl
theorem groupsClosed_c15 : (Rows.groupsClosedRow.mapsOut == Try.prog.mapsAmong Try.f25.resultTypes.toList) = true := by kernel_rfl
theorem groupsClosed_c16 : (Rows.groupsClosedRow.loops == (Try.f25.params.toList ++ Rows.groupsClosedSpec.plain.varTypes Try.prog).any (Try.prog.loopsFrom ·)) = true := by kernel_rfl
theorem groupsClosed_c17 : (Rows.groupsClosedRow.wideKeys == (Try.f25.params.toList ++ Rows.groupsClosedSpec.plain.varTypes Try.prog ++ Try.f25.resultTypes.toList).any (Try.prog.wideKeysFrom ·)) = true := by kernel_rfl
theorem groupsClosed_c18 : (Rows.groupsClosedSpec.vars.all (Try.prog.varReadable ·)) = true := by kernel_rfl
theorem groupsClosed_c19 : (Try.f25.resultTypes.all (fun t => Try.prog.readableRec t && decide (t < Try.prog.types.size))) = true := by kernel_rfl
theorem groupsClosed_c20 : (Rows.groupsClosedRow.ifacesOut == Try.f25.resultTypes.toList.any (Try.prog.ifacesRec ·)) = true := by kernel_rfl
theorem groupsClosed_c21 : (Rows.groupsClosedRow.loopsOut == Try.f25.resultTypes.toList.any (Try.prog.loopsFrom ·)) = true := by kernel_rfl
theorem groupsClosed_c22 : (Rows.groupsClosedRow.plainKeys == Try.prog.plainKeys) = true := beq_of plainKeys_ok
theorem groupsClosed_c23 : (Rows.groupsClosedRow.shortTexts.isNone) = true := by kernel_rfl
theorem groupsClosed_c26 : (Rows.groupsClosedRow.lifted == Try.prog.liftsFinal) = true := beq_of liftsFinal_ok
theorem groupsClosed_c27 : (Try.prog.make == some Rows.groupsClosedRow.make) = true := by rw [make_ok]; show _ = _; kernel_rfl
theorem groupsClosed_c28 : (Rows.groupsClosedRow.kinds == (if Rows.groupsClosedRow.domain.isEmpty then [] else Try.f25.params.toList.map fun t => match Try.prog.underlying t with | some (.int k) => some k | _ => none)) = true := by kernel_rfl
theorem groupsClosed_c29 : (Rows.groupsClosedRow.pinned == Rows.groupsClosedRow.pinnedBy) = true := by kernel_rfl
theorem groupsClosed_c30 : (Rows.groupsClosedRow.veiled == (Try.f25.params.toList ++ Rows.groupsClosedSpec.plain.varTypes Try.prog ++ Try.f25.resultTypes.toList).any (Try.prog.veiledRec ·)) = true := by kernel_rfl
theorem groupsClosed_c31 : (Rows.groupsClosedRow.veiledFits Try.prog Try.f25.params.toList (Try.f25.params.toList ++ Rows.groupsClosedSpec.plain.varTypes Try.prog ++ Try.f25.resultTypes.toList)) = true := by kernel_rfl
set_option maxRecDepth 1000000 in
theorem groupsClosed_closed : joinedFacts Try.prog 25 Try.f25 Rows.groupsClosedSpec Rows.groupsClosedRow = true := (and2 (and2 (and2 (and2 (and2 (and2 (and2 (and2 (and2 (and2 (and2 (and2 (and2 (and2 (and2 (and2 (and2 (and2 (and2 (and2 (and2 (and2 (and2 (and2 (and2 (and2 (and2 (and2 (and2 (and2 (and2 groupsClosed_c0 laidOut_ok) mapsRowed_ok) groupsClosed_c3) groupsClosed_c4) groupsClosed_c5) groupsClosed_c6) groupsClosed_c7) groupsClosed_c8) groupsClosed_c9) groupsClosed_c10) groupsClosed_c11) groupsClosed_c12) groupsClosed_c13) groupsClosed_c14) groupsClosed_c15) groupsClosed_c16) groupsClosed_c17) groupsClosed_c18) groupsClosed_c19) groupsClosed_c20) groupsClosed_c21) groupsClosed_c22) groupsClosed_c23) stopsHeard_ok) mayEnter_ok) groupsClosed_c26) groupsClosed_c27) groupsClosed_c28) groupsClosed_c29) groupsClosed_c30) groupsClosed_c31)

theorem groupsClosed_holds : Rows.GroupsClosedSaid :=
  OpenClaim.holds_of_wide 25 Try.f25 rfl rfl rfl rfl rfl rfl rfl ⟨rfl, rfl, rfl, rfl, rfl⟩ rfl rfl rfl rfl rfl (by kernel_rfl) Try.func25 groupsClosed_closed
    (of_decide_eq_true (by kernel_rfl)) (by unfold Func.isWrapper; first | (rw [if_pos (by decide +kernel)]; kernel_rfl) | (rw [if_neg (by decide +kernel)]; exact ⟨rfl, rfl⟩))
    (fun os started H enc _ => groupsClosed_lifted os started H enc)

end Go.Proofs.Ytjkelipglcnpmaa
