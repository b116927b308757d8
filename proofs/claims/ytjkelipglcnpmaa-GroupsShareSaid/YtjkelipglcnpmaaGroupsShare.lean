/- GroupsShare: the row, proved: the frame is law_lifted (Fr), the walk is f27.ok, the plain law is f27.holds. -/
import Derived.Test.YtjkelipglcnpmaaFr
import Derived.Test.YtjkelipglcnpmaaFs
import Derived.Test.YtjkelipglcnpmaaPg
import Derived.Test.YtjkelipglcnpmaaRows
namespace Go.Proofs.Ytjkelipglcnpmaa
open Go.VM

set_option maxRecDepth 100000 in
theorem groupsShare_lifted (os : Os) (started : os.Started) (H : Type) (enc : TypeId × Value → H) :
    ReturnsInHanded {} Try.checked os 27 .any (Rows.groupsShareSpec.pre6 enc Try.prog Try.f27 Rows.groupsShareRow.domain false) (Rows.groupsShareSpec.post enc Try.prog Try.f27 false true false false) := by
  refine law_lifted (C := Try.checked) (n := 8) (by kernel_rfl) started (by kernel_rfl) Try.func27
    (ChangeSpec.witness6 (enc := enc) (C := Try.checked) false ⟨#[], #[.agg #[.int .u64 0, .int .u64 0, .int .u64 0, .int .u64 0, .int .u64 0, .int .u64 0, .int .u64 0, .int .u64 0, .int .u64 0, .int .u64 0, .int .u64 0, .int .u64 0, .int .u64 0, .int .u64 0, .int .u64 0, .int .u64 0, .int .u64 0, .int .u64 0, .int .u64 0, .int .u64 0, .int .u64 0, .int .u64 0, .int .u64 0, .int .u64 0]], []⟩ 8 (by kernel_rfl) (by kernel_rfl) (by kernel_rfl) (by kernel_rfl)) ?_ rfl (tb := 4) rfl Try.underlying4 ?_ ?_
  · have h : (Try.f27.params.toList.all fun t => flat Try.prog 8 t) = true := by kernel_rfl
    exact List.all_eq_true.1 h
  · intro ds hds
    obtain ⟨d0, rfl⟩ := list1 (l := ds) hds
    rfl
  · intro W args hsz hr
    obtain ⟨v0, rfl⟩ := args1 (args := args) hsz
    obtain ⟨a0_0, a0_1, a0_2, a0_3, a0_4, a0_5, h0_0, h0_1, h0_2, h0_3, h0_4, h0_5, rfl⟩ := reads6 Try.underlying24 Try.underlying22 (by kernel_rfl) (by kernel_rfl) Try.underlying57 ⟨rfl, rfl⟩ ⟨rfl, rfl⟩ ⟨rfl, rfl⟩ (by kernel_rfl) Try.underlying67 ⟨rfl, rfl⟩ ⟨rfl, rfl⟩ ⟨rfl, rfl⟩ ⟨rfl, rfl⟩ (by kernel_rfl) (hr 0 67 v0 rfl rfl)
    exact law_calls (f27.ok 1000) (vs := [.agg [.ints .u64 4 (num a0_0), .ints .u64 4 (num a0_1), .ints .u64 4 (num a0_2), .ints .u64 4 (num a0_3), .ints .u64 4 (num a0_4), .ints .u64 4 (num a0_5)]]) (x := (num a0_0, num a0_1, num a0_2, num a0_3, num a0_4, num a0_5)) (f27.holds a0_0 a0_1 a0_2 a0_3 a0_4 a0_5 h0_0 h0_1 h0_2 h0_3 h0_4 h0_5) (fun _ => by kernel_rfl) rfl W

theorem groupsShare_c0 : (Rows.groupsShareRow.wf (OpenSpec.ofChange Rows.groupsShareSpec)) = true := by kernel_rfl
theorem groupsShare_c3 : (Try.f27.params.all (Try.prog.readableRec ·)) = true := by kernel_rfl
theorem groupsShare_c4 : (namedTie Try.prog Rows.groupsShareRow.named Rows.groupsShareSpec.vars) = true := by kernel_rfl
theorem groupsShare_c5 : (Rows.groupsShareRow.stops == []) = true := by kernel_rfl
theorem groupsShare_c6 : (Try.prog.stops == []) = true := by kernel_rfl
theorem groupsShare_c7 : (Rows.groupsShareRow.knobs == []) = true := by kernel_rfl
theorem groupsShare_c8 : (Try.prog.stopKnobs == []) = true := by kernel_rfl
theorem groupsShare_c9 : (Rows.groupsShareRow.inPlace == Try.prog.inPlace 27) = true := by kernel_rfl
theorem groupsShare_c10 : (Rows.groupsShareRow.unfollowed == Try.prog.unfollowed 27) = true := by kernel_rfl
theorem groupsShare_c11 : (Rows.groupsShareRow.recurses == Try.prog.recurses 27) = true := by kernel_rfl
theorem groupsShare_c12 : (Rows.groupsShareRow.named == Try.prog.varsNamed 27) = true := by kernel_rfl
theorem groupsShare_c13 : (Rows.groupsShareRow.maps == (Try.f27.params.toList ++ Rows.groupsShareSpec.plain.varTypes Try.prog).any (Try.prog.mapsRec ·)) = true := by kernel_rfl
theorem groupsShare_c14 : (Rows.groupsShareRow.ifaces == (Try.f27.params.toList ++ Rows.groupsShareSpec.plain.varTypes Try.prog).any (Try.prog.ifacesRec ·)) = true := by kernel_rfl
theorem groupsShare_c15 : (Rows.groupsShareRow.mapsOut == Try.prog.mapsAmong Try.f27.resultTypes.toList) = true := by kernel_rfl
theorem groupsShare_c16 : (Rows.groupsShareRow.loops == (Try.f27.params.toList ++ Rows.groupsShareSpec.plain.varTypes Try.prog).any (Try.prog.loopsFrom ·)) = true := by kernel_rfl
theorem groupsShare_c17 : (Rows.groupsShareRow.wideKeys == (Try.f27.params.toList ++ Rows.groupsShareSpec.plain.varTypes Try.prog ++ Try.f27.resultTypes.toList).any (Try.prog.wideKeysFrom ·)) = true := by kernel_rfl
theorem groupsShare_c18 : (Rows.groupsShareSpec.vars.all (Try.prog.varReadable ·)) = true := by kernel_rfl
theorem groupsShare_c19 : (Try.f27.resultTypes.all (fun t => Try.prog.readableRec t && decide (t < Try.prog.types.size))) = true := by kernel_rfl
theorem groupsShare_c20 : (Rows.groupsShareRow.ifacesOut == Try.f27.resultTypes.toList.any (Try.prog.ifacesRec ·)) = true := by kernel_rfl
theorem groupsShare_c21 : (Rows.groupsShareRow.loopsOut == Try.f27.resultTypes.toList.any (Try.prog.loopsFrom ·)) = true := by kernel_rfl
theorem groupsShare_c22 : (Rows.groupsShareRow.plainKeys == Try.prog.plainKeys) = true := beq_of plainKeys_ok
theorem groupsShare_c23 : (Rows.groupsShareRow.shortTexts.isNone) = true := by kernel_rfl
theorem groupsShare_c26 : (Rows.groupsShareRow.lifted == Try.prog.liftsFinal) = true := beq_of liftsFinal_ok
theorem groupsShare_c27 : (Try.prog.make == some Rows.groupsShareRow.make) = true := by rw [make_ok]; show _ = _; kernel_rfl
theorem groupsShare_c28 : (Rows.groupsShareRow.kinds == (if Rows.groupsShareRow.domain.isEmpty then [] else Try.f27.params.toList.map fun t => match Try.prog.underlying t with | some (.int k) => some k | _ => none)) = true := by kernel_rfl
theorem groupsShare_c29 : (Rows.groupsShareRow.pinned == Rows.groupsShareRow.pinnedBy) = true := by kernel_rfl
theorem groupsShare_c30 : (Rows.groupsShareRow.veiled == (Try.f27.params.toList ++ Rows.groupsShareSpec.plain.varTypes Try.prog ++ Try.f27.resultTypes.toList).any (Try.prog.veiledRec ·)) = true := by kernel_rfl
theorem groupsShare_c31 : (Rows.groupsShareRow.veiledFits Try.prog Try.f27.params.toList (Try.f27.params.toList ++ Rows.groupsShareSpec.plain.varTypes Try.prog ++ Try.f27.resultTypes.toList)) = true := by kernel_rfl
set_option maxRecDepth 1000000 in
theorem groupsShare_closed : joinedFacts Try.prog 27 Try.f27 Rows.groupsShareSpec Rows.groupsShareRow = true := (and2 (and2 (and2 (and2 (and2 (and2 (and2 (and2 (and2 (and2 (and2 (and2 (and2 (and2 (and2 (and2 (and2 (and2 (and2 (and2 (and2 (and2 (and2 (and2 (and2 (and2 (and2 (and2 (and2 (and2 (and2 groupsShare_c0 laidOut_ok) mapsRowed_ok) groupsShare_c3) groupsShare_c4) groupsShare_c5) groupsShare_c6) groupsShare_c7) groupsShare_c8) groupsShare_c9) groupsShare_c10) groupsShare_c11) groupsShare_c12) groupsShare_c13) groupsShare_c14) groupsShare_c15) groupsShare_c16) groupsShare_c17) groupsShare_c18) groupsShare_c19) groupsShare_c20) groupsShare_c21) groupsShare_c22) groupsShare_c23) stopsHeard_ok) mayEnter_ok) groupsShare_c26) groupsShare_c27) groupsShare_c28) groupsShare_c29) groupsShare_c30) groupsShare_c31)

theorem groupsShare_holds : Rows.GroupsShareSaid :=
  OpenClaim.holds_of_wide 27 Try.f27 rfl rfl rfl rfl rfl rfl rfl ⟨rfl, rfl, rfl, rfl, rfl⟩ rfl rfl rfl rfl rfl (by kernel_rfl) Try.func27 groupsShare_closed
    (of_decide_eq_true (by kernel_rfl)) (by unfold Func.isWrapper; first | (rw [if_pos (by decide +kernel)]; kernel_rfl) | (rw [if_neg (by decide +kernel)]; exact ⟨rfl, rfl⟩))
    (fun os started H enc _ => groupsShare_lifted os started H enc)

end Go.Proofs.Ytjkelipglcnpmaa
