/- ModsOver: the row, proved: the frame is law_lifted (Fr), the walk is f29.ok, the plain law is f29.holds. -/
import Derived.Test.YtjkelipglcnpmaaFr
import Derived.Test.YtjkelipglcnpmaaPn
import Derived.Test.YtjkelipglcnpmaaRows
namespace Go.Proofs.Ytjkelipglcnpmaa
open Go.VM

set_option maxRecDepth 100000 in
theorem modsOver_lifted (os : Os) (started : os.Started) (H : Type) (enc : TypeId × Value → H) :
    ReturnsInHanded {} Try.checked os 29 .any (Rows.modsOverSpec.pre6 enc Try.prog Try.f29 Rows.modsOverRow.domain false) (Rows.modsOverSpec.post enc Try.prog Try.f29 false true false false) := by
  refine law_lifted (C := Try.checked) (n := 8) (by kernel_rfl) started (by kernel_rfl) Try.func29
    (ChangeSpec.witness6 (enc := enc) (C := Try.checked) false ⟨#[], #[.agg #[.int .u64 0, .int .u64 0, .int .u64 0, .int .u64 0], .agg #[.int .u64 0, .int .u64 0, .int .u64 0, .int .u64 0], .agg #[.int .u64 0, .int .u64 0, .int .u64 0, .int .u64 0]], []⟩ 8 (by kernel_rfl) (by kernel_rfl) (by kernel_rfl) (by kernel_rfl)) ?_ rfl (tb := 4) rfl Try.underlying4 ?_ ?_
  · have h : (Try.f29.params.toList.all fun t => flat Try.prog 8 t) = true := by kernel_rfl
    exact List.all_eq_true.1 h
  · intro ds hds
    obtain ⟨d0, d1, d2, rfl⟩ := list3 (l := ds) hds
    rfl
  · intro W args hsz hr
    obtain ⟨v0, v1, v2, rfl⟩ := args3 (args := args) hsz
    obtain ⟨a0, h0, rfl⟩ := reads_num Try.underlying24 Try.underlying22 (by kernel_rfl) (by kernel_rfl) (hr 0 24 v0 rfl rfl)
    obtain ⟨a1, h1, rfl⟩ := reads_num Try.underlying24 Try.underlying22 (by kernel_rfl) (by kernel_rfl) (hr 1 24 v1 rfl rfl)
    obtain ⟨a2, h2, rfl⟩ := reads_num Try.underlying24 Try.underlying22 (by kernel_rfl) (by kernel_rfl) (hr 2 24 v2 rfl rfl)
    exact law_calls (f29.ok 1000) (vs := [.agg [.ints .u64 4 (num a0)], .agg [.ints .u64 4 (num a1)], .agg [.ints .u64 4 (num a2)]]) (x := (num a0, num a1, num a2)) (f29.holds a0 a1 a2 h0 h1 h2) (fun _ => by kernel_rfl) rfl W

theorem modsOver_c0 : (Rows.modsOverRow.wf (OpenSpec.ofChange Rows.modsOverSpec)) = true := by kernel_rfl
theorem modsOver_c3 : (Try.f29.params.all (Try.prog.readableRec ·)) = true := by kernel_rfl
theorem modsOver_c4 : (namedTie Try.prog Rows.modsOverRow.named Rows.modsOverSpec.vars) = true := by kernel_rfl
theorem modsOver_c5 : (Rows.modsOverRow.stops == []) = true := by kernel_rfl
theorem modsOver_c6 : (Try.prog.stops == []) = true := by kernel_rfl
theorem modsOver_c7 : (Rows.modsOverRow.knobs == []) = true := by kernel_rfl
theorem modsOver_c8 : (Try.prog.stopKnobs == []) = true := by kernel_rfl
theorem modsOver_c9 : (Rows.modsOverRow.inPlace == Try.prog.inPlace 29) = true := by kernel_rfl
theorem modsOver_c10 : (Rows.modsOverRow.unfollowed == Try.prog.unfollowed 29) = true := by kernel_rfl
theorem modsOver_c11 : (Rows.modsOverRow.recurses == Try.prog.recurses 29) = true := by kernel_rfl
theorem modsOver_c12 : (Rows.modsOverRow.named == Try.prog.varsNamed 29) = true := by kernel_rfl
theorem modsOver_c13 : (Rows.modsOverRow.maps == (Try.f29.params.toList ++ Rows.modsOverSpec.plain.varTypes Try.prog).any (Try.prog.mapsRec ·)) = true := by kernel_rfl
theorem modsOver_c14 : (Rows.modsOverRow.ifaces == (Try.f29.params.toList ++ Rows.modsOverSpec.plain.varTypes Try.prog).any (Try.prog.ifacesRec ·)) = true := by kernel_rfl
theorem modsOver_c15 : (Rows.modsOverRow.mapsOut == Try.prog.mapsAmong Try.f29.resultTypes.toList) = true := by kernel_rfl
theorem modsOver_c16 : (Rows.modsOverRow.loops == (Try.f29.params.toList ++ Rows.modsOverSpec.plain.varTypes Try.prog).any (Try.prog.loopsFrom ·)) = true := by kernel_rfl
theorem modsOver_c17 : (Rows.modsOverRow.wideKeys == (Try.f29.params.toList ++ Rows.modsOverSpec.plain.varTypes Try.prog ++ Try.f29.resultTypes.toList).any (Try.prog.wideKeysFrom ·)) = true := by kernel_rfl
theorem modsOver_c18 : (Rows.modsOverSpec.vars.all (Try.prog.varReadable ·)) = true := by kernel_rfl
theorem modsOver_c19 : (Try.f29.resultTypes.all (fun t => Try.prog.readableRec t && decide (t < Try.prog.types.size))) = true := by kernel_rfl
theorem modsOver_c20 : (Rows.modsOverRow.ifacesOut == Try.f29.resultTypes.toList.any (Try.prog.ifacesRec ·)) = true := by kernel_rfl
theorem modsOver_c21 : (Rows.modsOverRow.loopsOut == Try.f29.resultTypes.toList.any (Try.prog.loopsFrom ·)) = true := by kernel_rfl
theorem modsOver_c22 : (Rows.modsOverRow.plainKeys == Try.prog.plainKeys) = true := beq_of plainKeys_ok
theorem modsOver_c23 : (Rows.modsOverRow.shortTexts.isNone) = true := by kernel_rfl
theorem modsOver_c26 : (Rows.modsOverRow.lifted == Try.prog.liftsFinal) = true := beq_of liftsFinal_ok
theorem modsOver_c27 : (Try.prog.make == some Rows.modsOverRow.make) = true := by rw [make_ok]; show _ = _; kernel_rfl
theorem modsOver_c28 : (Rows.modsOverRow.kinds == (if Rows.modsOverRow.domain.isEmpty then [] else Try.f29.params.toList.map fun t => match Try.prog.underlying t with | some (.int k) => some k | _ => none)) = true := by kernel_rfl
theorem modsOver_c29 : (Rows.modsOverRow.pinned == Rows.modsOverRow.pinnedBy) = true := by kernel_rfl
theorem modsOver_c30 : (Rows.modsOverRow.veiled == (Try.f29.params.toList ++ Rows.modsOverSpec.plain.varTypes Try.prog ++ Try.f29.resultTypes.toList).any (Try.prog.veiledRec ·)) = true := by kernel_rfl
theorem modsOver_c31 : (Rows.modsOverRow.veiledFits Try.prog Try.f29.params.toList (Try.f29.params.toList ++ Rows.modsOverSpec.plain.varTypes Try.prog ++ Try.f29.resultTypes.toList)) = true := by kernel_rfl
set_option maxRecDepth 1000000 in
theorem modsOver_closed : joinedFacts Try.prog 29 Try.f29 Rows.modsOverSpec Rows.modsOverRow = true := (and2 (and2 (and2 (and2 (and2 (and2 (and2 (and2 (and2 (and2 (and2 (and2 (and2 (and2 (and2 (and2 (and2 (and2 (and2 (and2 (and2 (and2 (and2 (and2 (and2 (and2 (and2 (and2 (and2 (and2 (and2 modsOver_c0 laidOut_ok) mapsRowed_ok) modsOver_c3) modsOver_c4) modsOver_c5) modsOver_c6) modsOver_c7) modsOver_c8) modsOver_c9) modsOver_c10) modsOver_c11) modsOver_c12) modsOver_c13) modsOver_c14) modsOver_c15) modsOver_c16) modsOver_c17) modsOver_c18) modsOver_c19) modsOver_c20) modsOver_c21) modsOver_c22) modsOver_c23) stopsHeard_ok) mayEnter_ok) modsOver_c26) modsOver_c27) modsOver_c28) modsOver_c29) modsOver_c30) modsOver_c31)

theorem modsOver_holds : Rows.ModsOverSaid :=
  OpenClaim.holds_of_wide 29 Try.f29 rfl rfl rfl rfl rfl rfl rfl ⟨rfl, rfl, rfl, rfl, rfl⟩ rfl rfl rfl rfl rfl (by kernel_rfl) Try.func29 modsOver_closed
    (of_decide_eq_true (by kernel_rfl)) (by unfold Func.isWrapper; first | (rw [if_pos (by decide +kernel)]; kernel_rfl) | (rw [if_neg (by decide +kernel)]; exact ⟨rfl, rfl⟩))
    (fun os started H enc _ => modsOver_lifted os started H enc)

end Go.Proofs.Ytjkelipglcnpmaa
