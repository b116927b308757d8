/- DividesHalved: the row, proved: the frame is law_lifted (Fr), the walk is f12.ok, the plain law is f12.holds. -/
import Derived.Test.YtjkelipglcnpmaaFr
import Derived.Test.YtjkelipglcnpmaaPd
import Derived.Test.YtjkelipglcnpmaaRows
namespace Go.Proofs.Ytjkelipglcnpmaa
open Go.VM

set_option maxRecDepth 100000 in
theorem dividesHalved_lifted (os : Os) (started : os.Started) (H : Type) (enc : TypeId × Value → H) :
    ReturnsInHanded {} Try.checked os 12 .any (Rows.dividesHalvedSpec.pre6 enc Try.prog Try.f12 Rows.dividesHalvedRow.domain false) (Rows.dividesHalvedSpec.post enc Try.prog Try.f12 false true false false) := by
  refine law_lifted (C := Try.checked) (n := 8) (by kernel_rfl) started (by kernel_rfl) Try.func12
    (ChangeSpec.witness6 (enc := enc) (C := Try.checked) false ⟨#[], #[.agg #[.int .u64 0, .int .u64 0, .int .u64 0, .int .u64 0], .agg #[.int .u64 0, .int .u64 0, .int .u64 0, .int .u64 0], .int .u8 0], []⟩ 8 (by kernel_rfl) (by kernel_rfl) (by kernel_rfl) (by kernel_rfl)) ?_ rfl (tb := 4) rfl Try.underlying4 ?_ ?_
  · have h : (Try.f12.params.toList.all fun t => flat Try.prog 8 t) = true := by kernel_rfl
    exact List.all_eq_true.1 h
  · intro ds hds
    obtain ⟨d0, d1, d2, rfl⟩ := list3 (l := ds) hds
    rfl
  · intro W args hsz hr
    obtain ⟨v0, v1, v2, rfl⟩ := args3 (args := args) hsz
    obtain ⟨a0, h0, rfl⟩ := reads_num Try.underlying24 Try.underlying22 (by kernel_rfl) (by kernel_rfl) (hr 0 24 v0 rfl rfl)
    obtain ⟨a1, h1, rfl⟩ := reads_num Try.underlying24 Try.underlying22 (by kernel_rfl) (by kernel_rfl) (hr 1 24 v1 rfl rfl)
    obtain ⟨a2, h2, rfl⟩ := reads_int Try.underlying5 (hr 2 5 v2 rfl rfl)
    exact law_calls (f12.ok 1000) (vs := [.agg [.ints .u64 4 (num a0)], .agg [.ints .u64 4 (num a1)], .int .u8 a2]) (x := (num a0, num a1, a2)) (f12.holds a0 a1 a2 h0 h1 h2) (fun _ => by kernel_rfl) rfl W

theorem dividesHalved_c0 : (Rows.dividesHalvedRow.wf (OpenSpec.ofChange Rows.dividesHalvedSpec)) = true := by kernel_rfl
theorem dividesHalved_c3 : (Try.f12.params.all (Try.prog.readableRec ·)) = true := by kernel_rfl
theorem dividesHalved_c4 : (namedTie Try.prog Rows.dividesHalvedRow.named Rows.dividesHalvedSpec.vars) = true := by kernel_rfl
theorem dividesHalved_c5 : (Rows.dividesHalvedRow.stops == []) = true := by kernel_rfl
theorem dividesHalved_c6 : (Try.prog.stops == []) = true := by kernel_rfl
theorem dividesHalved_c7 : (Rows.dividesHalvedRow.knobs == []) = true := by kernel_rfl
theorem dividesHalved_c8 : (Try.prog.stopKnobs == []) = true := by kernel_rfl
theorem dividesHalved_c9 : (Rows.dividesHalvedRow.inPlace == Try.prog.inPlace 12) = true := by kernel_rfl
theorem dividesHalved_c10 : (Rows.dividesHalvedRow.unfollowed == Try.prog.unfollowed 12) = true := by kernel_rfl
theorem dividesHalved_c11 : (Rows.dividesHalvedRow.recurses == Try.prog.recurses 12) = true := by kernel_rfl
theorem dividesHalved_c12 : (Rows.dividesHalvedRow.named == Try.prog.varsNamed 12) = true := by kernel_rfl
theorem dividesHalved_c13 : (Rows.dividesHalvedRow.maps == (Try.f12.params.toList ++ Rows.dividesHalvedSpec.plain.varTypes Try.prog).any (Try.prog.mapsRec ·)) = true := by kernel_rfl
theorem dividesHalved_c14 : (Rows.dividesHalvedRow.ifaces == (Try.f12.params.toList ++ Rows.dividesHalvedSpec.plain.varTypes Try.prog).any (Try.prog.ifacesRec ·)) = true := by kernel_rfl
theorem dividesHalved_c15 : (Rows.dividesHalvedRow.mapsOut == Try.prog.mapsAmong Try.f12.resultTypes.toList) = true := by kernel_rfl
theorem dividesHalved_c16 : (Rows.dividesHalvedRow.loops == (Try.f12.params.toList ++ Rows.dividesHalvedSpec.plain.varTypes Try.prog).any (Try.prog.loopsFrom ·)) = true := by kernel_rfl
theorem dividesHalved_c17 : (Rows.dividesHalvedRow.wideKeys == (Try.f12.params.toList ++ Rows.dividesHalvedSpec.plain.varTypes Try.prog ++ Try.f12.resultTypes.toList).any (Try.prog.wideKeysFrom ·)) = true := by kernel_rfl
theorem dividesHalved_c18 : (Rows.dividesHalvedSpec.vars.all (Try.prog.varReadable ·)) = true := by kernel_rfl
theorem dividesHalved_c19 : (Try.f12.resultTypes.all (fun t => Try.prog.readableRec t && decide (t < Try.prog.types.size))) = true := by kernel_rfl
theorem dividesHalved_c20 : (Rows.dividesHalvedRow.ifacesOut == Try.f12.resultTypes.toList.any (Try.prog.ifacesRec ·)) = true := by kernel_rfl
theorem dividesHalved_c21 : (Rows.dividesHalvedRow.loopsOut == Try.f12.resultTypes.toList.any (Try.prog.loopsFrom ·)) = true := by kernel_rfl
theorem dividesHalved_c22 : (Rows.dividesHalvedRow.plainKeys == Try.prog.plainKeys) = true := beq_of plainKeys_ok
theorem dividesHalved_c23 : (Rows.dividesHalvedRow.shortTexts.isNone) = true := by kernel_rfl
theorem dividesHalved_c26 : (Rows.dividesHalvedRow.lifted == Try.prog.liftsFinal) = true := beq_of liftsFinal_ok
theorem dividesHalved_c27 : (Try.prog.make == some Rows.dividesHalvedRow.make) = true := by rw [make_ok]; show _ = _; kernel_rfl
theorem dividesHalved_c28 : (Rows.dividesHalvedRow.kinds == (if Rows.dividesHalvedRow.domain.isEmpty then [] else Try.f12.params.toList.map fun t => match Try.prog.underlying t with | some (.int k) => some k | _ => none)) = true := by kernel_rfl
theorem dividesHalved_c29 : (Rows.dividesHalvedRow.pinned == Rows.dividesHalvedRow.pinnedBy) = true := by kernel_rfl
theorem dividesHalved_c30 : (Rows.dividesHalvedRow.veiled == (Try.f12.params.toList ++ Rows.dividesHalvedSpec.plain.varTypes Try.prog ++ Try.f12.resultTypes.toList).any (Try.prog.veiledRec ·)) = true := by kernel_rfl
theorem dividesHalved_c31 : (Rows.dividesHalvedRow.veiledFits Try.prog Try.f12.params.toList (Try.f12.params.toList ++ Rows.dividesHalvedSpec.plain.varTypes Try.prog ++ Try.f12.resultTypes.toList)) = true := by kernel_rfl
set_option maxRecDepth 1000000 in
theorem dividesHalved_closed : joinedFacts Try.prog 12 Try.f12 Rows.dividesHalvedSpec Rows.dividesHalvedRow = true := (and2 (and2 (and2 (and2 (and2 (and2 (and2 (and2 (and2 (and2 (and2 (and2 (and2 (and2 (and2 (and2 (and2 (and2 (and2 (and2 (and2 (and2 (and2 (and2 (and2 (and2 (and2 (and2 (and2 (and2 (and2 dividesHalved_c0 laidOut_ok) mapsRowed_ok) dividesHalved_c3) dividesHalved_c4) dividesHalved_c5) dividesHalved_c6) dividesHalved_c7) dividesHalved_c8) dividesHalved_c9) dividesHalved_c10) dividesHalved_c11) dividesHalved_c12) dividesHalved_c13) dividesHalved_c14) dividesHalved_c15) dividesHalved_c16) dividesHalved_c17) dividesHalved_c18) dividesHalved_c19) dividesHalved_c20) dividesHalved_c21) dividesHalved_c22) dividesHalved_c23) stopsHeard_ok) mayEnter_ok) dividesHalved_c26) dividesHalved_c27) dividesHalved_c28) dividesHalved_c29) dividesHalved_c30) dividesHalved_c31)

theorem dividesHalved_holds : Rows.DividesHalvedSaid :=
  OpenClaim.holds_of_wide 12 Try.f12 rfl rfl rfl rfl rfl rfl rfl ⟨rfl, rfl, rfl, rfl, rfl⟩ rfl rfl rfl rfl rfl (by kernel_rfl) Try.func12 dividesHalved_closed
    (of_decide_eq_true (by kernel_rfl)) (by unfold Func.isWrapper; first | (rw [if_pos (by decide +kernel)]; kernel_rfl) | (rw [if_neg (by decide +kernel)]; exact ⟨rfl, rfl⟩))
    (fun os started H enc _ => dividesHalved_lifted os started H enc)

end Go.Proofs.Ytjkelipglcnpmaa
