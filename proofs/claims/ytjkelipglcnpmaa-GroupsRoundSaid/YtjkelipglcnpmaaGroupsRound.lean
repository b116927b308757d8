/- GroupsRound: the row, proved: the frame is law_lifted (Fr), the walk is f26.ok, the plain law is f26.holds. -/
import Derived.Test.YtjkelipglcnpmaaFr
import Derived.Test.YtjkelipglcnpmaaFs
import Derived.Test.YtjkelipglcnpmaaPg
import Derived.Test.YtjkelipglcnpmaaRows
namespace Go.Proofs.Ytjkelipglcnpmaa
open Go.VM

set_option maxRecDepth 100000 in
theorem groupsRound_lifted (os : Os) (started : os.Started) (H : Type) (enc : TypeId × Value → H) :
    ReturnsInHanded {} Try.checked os 26 .any (Rows.groupsRoundSpec.pre6 enc Try.prog Try.f26 Rows.groupsRoundRow.domain false) (Rows.groupsRoundSpec.post enc Try.prog Try.f26 false true false false) := by
  refine law_lifted (C := Try.checked) (n := 8) (by kernel_rfl) started (by kernel_rfl) Try.func26
    (ChangeSpec.witness6 (enc := enc) (C := Try.checked) false ⟨#[], #[.agg #[.int .u64 0, .int .u64 0, .int .u64 0, .int .u64 0, .int .u64 0, .int .u64 0, .int .u64 0, .int .u64 0, .int .u64 0, .int .u64 0, .int .u64 0, .int .u64 0, .int .u64 0, .int .u64 0, .int .u64 0, .int .u64 0, .int .u64 0, .int .u64 0, .int .u64 0, .int .u64 0, .int .u64 0, .int .u64 0, .int .u64 0, .int .u64 0]], []⟩ 8 (by kernel_rfl) (by kernel_rfl) (by kernel_rfl) (by kernel_rfl)) ?_ rfl (tb := 4) rfl Try.underlying4 ?_ ?_
  · have h : (Try.f26.params.toList.all fun t => flat Try.prog 8 t) = true := by kernel_rfl
    exact List.all_eq_true.1 h
  · intro ds hds
    obtain ⟨d0, rfl⟩ := list1 (l := ds) hds
    rfl
  · intro W args hsz hr
    obtain ⟨v0, rfl⟩ := args1 (args := args) hsz
    obtain ⟨a0_0, a0_1, a0_2, a0_3, a0_4, a0_5, h0_0, h0_1, h0_2, h0_3, h0_4, h0_5, rfl⟩ := reads6 Try.underlying24 Try.underlying22 (by kernel_rfl) (by kernel_rfl) Try.underlying57 ⟨rfl, rfl⟩ ⟨rfl, rfl⟩ ⟨rfl, rfl⟩ (by kernel_rfl) Try.underlying67 ⟨rfl, rfl⟩ ⟨rfl, rfl⟩ ⟨rfl, rfl⟩ ⟨rfl, rfl⟩ (by kernel_rfl) (hr 0 67 v0 rfl rfl)
    exact law_calls (f26.ok 1000) (vs := [.agg [.ints .u64 4 (num a0_0), .ints .u64 4 (num a0_1), .ints .u64 4 (num a0_2), .ints .u64 4 (num a0_3), .ints .u64 4 (num a0_4), .ints .u64 4 (num a0_5)]]) (x := (num a0_0, num a0_1, num a0_2, num a0_3, num a0_4, num a0_5)) (f26.holds a0_0 a0_1 a0_2 a0_3 a0_4 a0_5 h0_0 h0_1 h0_2 h0_3 h0_4 h0_5) (fun _ => by kernel_rfl) rfl W

theorem groupsRound_c0 : (Rows.groupsRoundRow.wf (OpenSpec.ofChange Rows.groupsRoundSpec)) = true := by kernel_rfl
theorem groupsRound_c3 : (Try.f26.params.all (Try.prog.readableRec ·)) = true := by kernel_rfl
theorem groupsRound_c4 : (namedTie Try.prog Rows.groupsRoundRow.named Rows.groupsRoundSpec.vars) = true := by kernel_rfl
theorem groupsRound_c5 : (Rows.groupsRoundRow.stops == []) = true := by kernel_rfl
theorem groupsRound_c6 : (Try.prog.stops == []) = true := by kernel_rfl
theorem groupsRound_c7 : (Rows.groupsRoundRow.knobs == []) = true := by kernel_rfl
theorem groupsRound_c8 : (Try.prog.stopKnobs == []) = true := by kernel_rfl
theorem groupsRound_c9 : (Rows.groupsRoundRow.inPlace == Try.prog.inPlace 26) = true := by kernel_rfl
theorem groupsRound_c10 : (Rows.groupsRoundRow.unfollowed == Try.prog.unfollowed 26) = true := by kernel_rfl
theorem groupsRound_c11 : (Rows.groupsRoundRow.recurses == Try.prog.recurses 26) = true := by kernel_rfl
theorem groupsRound_c12 : (Rows.groupsRoundRow.named == Try.prog.varsNamed 26) = true := by kernel_rfl
theorem groupsRound_c13 : (Rows.groupsRoundRow.maps == (Try.f26.params.toList ++ Rows.groupsRoundSpec.plain.varTypes Try.prog).any (Try.prog.mapsRec ·)) = true := by kernel_rfl
theorem groupsRound_c14 : (Rows.groupsRoundRow.ifaces == (Try.f26.params.toList ++ Rows.groupsRoundSpec.plain.varTypes Try.prog).any (Try.prog.ifacesRec ·)) = true := by kernel_rfl
theorem groupsRound_c15 : (Rows.groupsRoundRow.mapsOut == Try.prog.mapsAmong Try.f26.resultTypes.toList) = true := by kernel_rfl
theorem groupsRound_c16 : (Rows.groupsRoundRow.loops == (Try.f26.params.toList ++ Rows.groupsRoundSpec.plain.varTypes Try.prog).any (Try.prog.loopsFrom ·)) = true := by kernel_rfl
theorem groupsRound_c17 : (Rows.groupsRoundRow.wideKeys == (Try.f26.params.toList ++ Rows.groupsRoundSpec.plain.varTypes Try.prog ++ Try.f26.resultTypes.toList).any (Try.prog.wideKeysFrom ·)) = true := by kernel_rfl
theorem groupsRound_c18 : (Rows.groupsRoundSpec.vars.all (Try.prog.varReadable ·)) = true := by kernel_rfl
theorem groupsRound_c19 : (Try.f26.resultTypes.all (fun t => Try.prog.readableRec t && decide (t < Try.prog.types.size))) = true := by kernel_rfl
theorem groupsRound_c20 : (Rows.groupsRoundRow.ifacesOut == Try.f26.resultTypes.toList.any (Try.prog.ifacesRec ·)) = true := by kernel_rfl
theorem groupsRound_c21 : (Rows.groupsRoundRow.loopsOut == Try.f26.resultTypes.toList.any (Try.prog.loopsFrom ·)) = true := by kernel_rfl
theorem groupsRound_c22 : (Rows.groupsRoundRow.plainKeys == Try.prog.plainKeys) = true := beq_of plainKeys_ok
theorem groupsRound_c23 : (Rows.groupsRoundRow.shortTexts.isNone) = true := by kernel_rfl
theorem groupsRound_c26 : (Rows.groupsRoundRow.lifted == Try.prog.liftsFinal) = true := beq_of liftsFinal_ok
theorem groupsRound_c27 : (Try.prog.make == some Rows.groupsRoundRow.make) = true := by rw [make_ok]; show _ = _; kernel_rfl
theorem groupsRound_c28 : (Rows.groupsRoundRow.kinds == (if Rows.groupsRoundRow.domain.isEmpty then [] else Try.f26.params.toList.map fun t => match Try.prog.underlying t with | some (.int k) => some k | _ => none)) = true := by kernel_rfl
theorem groupsRound_c29 : (Rows.groupsRoundRow.pinned == Rows.groupsRoundRow.pinnedBy) = true := by kernel_rfl
theorem groupsRound_c30 : (Rows.groupsRoundRow.veiled == (Try.f26.params.toList ++ Rows.groupsRoundSpec.plain.varTypes Try.prog ++ Try.f26.resultTypes.toList).any (Try.prog.veiledRec ·)) = true := by kernel_rfl
theorem groupsRound_c31 : (Rows.groupsRoundRow.veiledFits Try.prog Try.f26.params.toList (Try.f26.params.toList ++ Rows.groupsRoundSpec.plain.varTypes Try.prog ++ Try.f26.resultTypes.toList)) = true := by kernel_rfl
set_option maxRecDepth 1000000 in
theorem groupsRound_closed : joinedFacts Try.prog 26 Try.f26 Rows.groupsRoundSpec Rows.groupsRoundRow = true := (and2 (and2 (and2 (and2 (and2 (and2 (and2 (and2 (and2 (and2 (and2 (and2 (and2 (and2 (and2 (and2 (and2 (and2 (and2 (and2 (and2 (and2 (and2 (and2 (and2 (and2 (and2 (and2 (and2 (and2 (and2 groupsRound_c0 laidOut_ok) mapsRowed_ok) groupsRound_c3) groupsRound_c4) groupsRound_c5) groupsRound_c6) groupsRound_c7) groupsRound_c8) groupsRound_c9) groupsRound_c10) groupsRound_c11) groupsRound_c12) groupsRound_c13) groupsRound_c14) groupsRound_c15) groupsRound_c16) groupsRound_c17) groupsRound_c18) groupsRound_c19) groupsRound_c20) groupsRound_c21) groupsRound_c22) groupsRound_c23) stopsHeard_ok) mayEnter_ok) groupsRound_c26) groupsRound_c27) groupsRound_c28) groupsRound_c29) groupsRound_c30) groupsRound_c31)

theorem groupsRound_holds : Rows.GroupsRoundSaid :=
  OpenClaim.holds_of_wide 26 Try.f26 rfl rfl rfl rfl rfl rfl rfl ⟨rfl, rfl, rfl, rfl, rfl⟩ rfl rfl rfl rfl rfl (by kernel_rfl) Try.func26 groupsRound_closed
    (of_decide_eq_true (by kernel_rfl)) (by unfold Func.isWrapper; first | (rw [if_pos (by decide +kernel)]; kernel_rfl) | (rw [if_neg (by decide +kernel)]; exact ⟨rfl, rfl⟩))
    (fun os started H enc _ => groupsRound_lifted os started H enc)

end Go.Proofs.Ytjkelipglcnpmaa
