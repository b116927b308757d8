/- ModsRound: the row, proved: the frame is law_lifted (Fr), the walk is f18.ok, the plain law is f18.holds. -/
import Derived.Test.YtjkelipglcnpmaaFr
import Derived.Test.YtjkelipglcnpmaaPm
import Derived.Test.YtjkelipglcnpmaaRows
namespace Go.Proofs.Ytjkelipglcnpmaa
open Go.VM

set_option maxRecDepth 100000 in
theorem modsRound_lifted (os : Os) (started : os.Started) (H : Type) (enc : TypeId × Value → H) :
    ReturnsInHanded {} Try.checked os 18 .any (Rows.modsRoundSpec.pre6 enc Try.prog Try.f18 Rows.modsRoundRow.domain false) (Rows.modsRoundSpec.post enc Try.prog Try.f18 false true false false) := by
  refine law_lifted (C := Try.checked) (n := 8) (by kernel_rfl) started (by kernel_rfl) Try.func18
    (ChangeSpec.witness6 (enc := enc) (C := Try.checked) false ⟨#[], #[.agg #[.int .u64 0, .int .u64 0, .int .u64 0, .int .u64 0], .agg #[.int .u64 0, .int .u64 0, .int .u64 0, .int .u64 0]], []⟩ 8 (by kernel_rfl) (by kernel_rfl) (by kernel_rfl) (by kernel_rfl)) ?_ rfl (tb := 4) rfl Try.underlying4 ?_ ?_
  · have h : (Try.f18.params.toList.all fun t => flat Try.prog 8 t) = true := by kernel_rfl
    exact List.all_eq_true.1 h
  · intro ds hds
    obtain ⟨d0, d1, rfl⟩ := list2 (l := ds) hds
    rfl
  · intro W args hsz hr
    obtain ⟨v0, v1, rfl⟩ := args2 (args := args) hsz
    obtain ⟨a0, h0, rfl⟩ := reads_num Try.underlying24 Try.underlying22 (by kernel_rfl) (by kernel_rfl) (hr 0 24 v0 rfl rfl)
    obtain ⟨a1, h1, rfl⟩ := reads_num Try.underlying24 Try.underlying22 (by kernel_rfl) (by kernel_rfl) (hr 1 24 v1 rfl rfl)
    exact law_calls (f18.ok 1000) (vs := [.agg [.ints .u64 4 (num a0)], .agg [.ints .u64 4 (num a1)]]) (x := (num a0, num a1)) (f18.holds a0 a1 h0 h1) (fun _ => by kernel_rfl) rfl W

theorem modsRound_c0 : (Rows.modsRoundRow.wf (OpenSpec.ofChange Rows.modsRoundSpec)) = true := by kernel_rfl
theorem modsRound_c3 : (Try.f18.params.all (Try.prog.readableRec ·)) = true := by kernel_rfl
theorem modsRound_c4 : (namedTie Try.prog Rows.modsRoundRow.named Rows.modsRoundSpec.vars) = true := by kernel_rfl
theorem modsRound_c5 : (Rows.modsRoundRow.stops == []) = true := by kernel_rfl
theorem modsRound_c6 : (Try.prog.stops == []) = true := by kernel_rfl
theorem modsRound_c7 : (Rows.modsRoundRow.knobs == []) = true := by kernel_rfl
theorem modsRound_c8 : (Try.prog.stopKnobs == []) = true := by kernel_rfl
theorem modsRound_c9 : (Rows.modsRoundRow.inPlace == Try.prog.inPlace 18) = true := by kernel_rfl
theorem modsRound_c10 : (Rows.modsRoundRow.unfollowed == Try.prog.unfollowed 18) = true := by kernel_rfl
theorem modsRound_c11 : (Rows.modsRoundRow.recurses == Try.prog.recurses 18) = true := by kernel_rfl
theorem modsRound_c12 : (Rows.modsRoundRow.named == Try.prog.varsNamed 18) = true := by kernel_rfl
theorem modsRound_c13 : (Rows.modsRoundRow.maps == (Try.f18.params.toList ++ Rows.modsRoundSpec.plain.varTypes Try.prog).any (Try.prog.mapsRec ·)) = true := by kernel_rfl
theorem modsRound_c14 : (Rows.modsRoundRow.ifaces == (Try.f18.params.toList ++ Rows.modsRoundSpec.plain.varTypes Try.prog).any (Try.prog.ifacesRec ·)) = true := by kernel_rfl
theorem modsRound_c15 : (Rows.modsRoundRow.mapsOut == Try.prog.mapsAmong Try.f18.resultTypes.toList) = true := by kernel_rfl
theorem modsRound_c16 : (Rows.modsRoundRow.loops == (Try.f18.params.toList ++ Rows.modsRoundSpec.plain.varTypes Try.prog).any (Try.prog.loopsFrom ·)) = true := by kernel_rfl
theorem modsRound_c17 : (Rows.modsRoundRow.wideKeys == (Try.f18.params.toList ++ Rows.modsRoundSpec.plain.varTypes Try.prog ++ Try.f18.resultTypes.toList).any (Try.prog.wideKeysFrom ·)) = true := by kernel_rfl
theorem modsRound_c18 : (Rows.modsRoundSpec.vars.all (Try.prog.varReadable ·)) = true := by kernel_rfl
theorem modsRound_c19 : (Try.f18.resultTypes.all (fun t => Try.prog.readableRec t && decide (t < Try.prog.types.size))) = true := by kernel_rfl
theorem modsRound_c20 : (Rows.modsRoundRow.ifacesOut == Try.f18.resultTypes.toList.any (Try.prog.ifacesRec ·)) = true := by kernel_rfl
theorem modsRound_c21 : (Rows.modsRoundRow.loopsOut == Try.f18.resultTypes.toList.any (Try.prog.loopsFrom ·)) = true := by kernel_rfl
theorem modsRound_c22 : (Rows.modsRoundRow.plainKeys == Try.prog.plainKeys) = true := beq_of plainKeys_ok
theorem modsRound_c23 : (Rows.modsRoundRow.shortTexts.isNone) = true := by kernel_rfl
theorem modsRound_c26 : (Rows.modsRoundRow.lifted == Try.prog.liftsFinal) = true := beq_of liftsFinal_ok
theorem modsRound_c27 : (Try.prog.make == some Rows.modsRoundRow.make) = true := by rw [make_ok]; show _ = _; kernel_rfl
theorem modsRound_c28 : (Rows.modsRoundRow.kinds == (if Rows.modsRoundRow.domain.isEmpty then [] else Try.f18.params.toList.map fun t => match Try.prog.underlying t with | some (.int k) => some k | _ => none)) = true := by kernel_rfl
theorem modsRound_c29 : (Rows.modsRoundRow.pinned == Rows.modsRoundRow.pinnedBy) = true := by kernel_rfl
theorem modsRound_c30 : (Rows.modsRoundRow.veiled == (Try.f18.params.toList ++ Rows.modsRoundSpec.plain.varTypes Try.prog ++ Try.f18.resultTypes.toList).any (Try.prog.veiledRec ·)) = true := by kernel_rfl
theorem modsRound_c31 : (Rows.modsRoundRow.veiledFits Try.prog Try.f18.params.toList (Try.f18.params.toList ++ Rows.modsRoundSpec.plain.varTypes Try.prog ++ Try.f18.resultTypes.toList)) = true := by kernel_rfl
set_option maxRecDepth 1000000 in
theorem modsRound_closed : joinedFacts Try.prog 18 Try.f18 Rows.modsRoundSpec Rows.modsRoundRow = true := (and2 (and2 (and2 (and2 (and2 (and2 (and2 (and2 (and2 (and2 (and2 (and2 (and2 (and2 (and2 (and2 (and2 (and2 (and2 (and2 (and2 (and2 (and2 (and2 (and2 (and2 (and2 (and2 (and2 (and2 (and2 modsRound_c0 laidOut_ok) mapsRowed_ok) modsRound_c3) modsRound_c4) modsRound_c5) modsRound_c6) modsRound_c7) modsRound_c8) modsRound_c9) modsRound_c10) modsRound_c11) modsRound_c12) modsRound_c13) modsRound_c14) modsRound_c15) modsRound_c16) modsRound_c17) modsRound_c18) modsRound_c19) modsRound_c20) modsRound_c21) modsRound_c22) modsRound_c23) stopsHeard_ok) mayEnter_ok) modsRound_c26) modsRound_c27) modsRound_c28) modsRound_c29) modsRound_c30) modsRound_c31)

theorem modsRound_holds : Rows.ModsRoundSaid :=
  OpenClaim.holds_of_wide 18 Try.f18 rfl rfl rfl rfl rfl rfl rfl ⟨rfl, rfl, rfl, rfl, rfl⟩ rfl rfl rfl rfl rfl (by kernel_rfl) Try.func18 modsRound_closed
    (of_decide_eq_true (by kernel_rfl)) (by unfold Func.isWrapper; first | (rw [if_pos (by decide +kernel)]; kernel_rfl) | (rw [if_neg (by decide +kernel)]; exact ⟨rfl, rfl⟩))
    (fun os started H enc _ => modsRound_lifted os started H enc)

end Go.Proofs.Ytjkelipglcnpmaa
