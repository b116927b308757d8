/- SigsBounds: the row, proved: the frame is law_lifted (Fr), the walk is f31.ok, the plain law is f31.holds. -/
import Derived.Test.YtjkelipglcnpmaaFr
import Derived.Test.YtjkelipglcnpmaaFs
import Derived.Test.YtjkelipglcnpmaaFt
import Derived.Test.YtjkelipglcnpmaaPi
import Derived.Test.YtjkelipglcnpmaaRows
namespace Go.Proofs.Ytjkelipglcnpmaa
open Go.VM
set_option maxRecDepth 100000 in
theorem sigsBounds_lifted (os : Os) (started : os.Started) (H : Type) (enc : TypeId × Value → H) :
    ReturnsInHanded {} Try.checked os 31 .any (Rows.sigsBoundsSpec.pre6 enc Try.prog Try.f31 Rows.sigsBoundsRow.domain false) (Rows.sigsBoundsSpec.post enc Try.prog Try.f31 false true false false) := by
  refine law_lifted (C := Try.checked) (n := 8) (by kernel_rfl) started (by kernel_rfl) Try.func31
    (ChangeSpec.witness6 (enc := enc) (C := Try.checked) false ⟨#[], #[.agg #[.int .u64 0, .int .u64 0, .int .u64 0, .int .u64 0, .int .u64 0, .int .u64 0, .int .u64 0, .int .u64 0, .int .u64 0, .int .u64 0, .int .u64 0, .int .u64 0], .agg #[.int .u64 0, .int .u64 0, .int .u64 0, .int .u64 0], .agg #[.int .u8 0, .int .u8 0, .int .u8 0, .int .u8 0, .int .u8 0, .int .u8 0, .int .u8 0, .int .u8 0, .int .u8 0, .int .u8 0, .int .u8 0, .int .u8 0, .int .u8 0, .int .u8 0, .int .u8 0, .int .u8 0, .int .u8 0, .int .u8 0, .int .u8 0, .int .u8 0, .int .u8 0, .int .u8 0, .int .u8 0, .int .u8 0, .int .u8 0, .int .u8 0, .int .u8 0, .int .u8 0, .int .u8 0, .int .u8 0, .int .u8 0, .int .u8 0]], []⟩ 8 (by kernel_rfl) (by kernel_rfl) (by kernel_rfl) (by kernel_rfl)) ?_ rfl (tb := 4) rfl Try.underlying4 ?_ ?_
  · have h : (Try.f31.params.toList.all fun t => flat Try.prog 8 t) = true := by kernel_rfl
    exact List.all_eq_true.1 h
  · intro ds hds
    obtain ⟨d0, d1, d2, rfl⟩ := list3 (l := ds) hds
    rfl
  · intro W args hsz hr
    obtain ⟨v0, v1, v2, rfl⟩ := args3 (args := args) hsz
    obtain ⟨a0_0, a0_1, a0_2, h0_0, h0_1, h0_2, rfl⟩ := reads3 Try.underlying24 Try.underlying22 (by kernel_rfl) (by kernel_rfl) Try.underlying57 ⟨rfl, rfl⟩ ⟨rfl, rfl⟩ ⟨rfl, rfl⟩ (by kernel_rfl) (hr 0 57 v0 rfl rfl)
    obtain ⟨a1, h1, rfl⟩ := reads_num Try.underlying24 Try.underlying22 (by kernel_rfl) (by kernel_rfl) (hr 1 24 v1 rfl rfl)
    obtain ⟨a2, h2, rfl⟩ := reads_octets Try.underlying70 Try.underlying5 (by kernel_rfl) (by kernel_rfl) (hr 2 70 v2 rfl rfl)
    exact law_calls (f31.ok 100000) (vs := [.agg [.ints .u64 4 (num a0_0), .ints .u64 4 (num a0_1), .ints .u64 4 (num a0_2)], .agg [.ints .u64 4 (num a1)], .agg [.ints .u8 32 a2]]) (x := (num a0_0, num a0_1, num a0_2, num a1, a2)) (f31.holds a0_0 a0_1 a0_2 a1 a2 h0_0 h0_1 h0_2 h1 h2) (fun _ => by kernel_rfl) rfl W
theorem sigsBounds_c0 : (Rows.sigsBoundsRow.wf (OpenSpec.ofChange Rows.sigsBoundsSpec)) = true := by kernel_rfl
theorem sigsBounds_c3 : (Try.f31.params.all (Try.prog.readableRec ·)) = true := by kernel_rfl
theorem sigsBounds_c4 : (namedTie Try.prog Rows.sigsBoundsRow.named Rows.sigsBoundsSpec.vars) = true := by kernel_rfl
theorem sigsBounds_c5 : (Rows.sigsBoundsRow.stops == []) = true := by kernel_rfl
theorem sigsBounds_c6 : (Try.prog.stops == []) = true := by kernel_rfl
theorem sigsBounds_c7 : (Rows.sigsBoundsRow.knobs == []) = true := by kernel_rfl
theorem sigsBounds_c8 : (Try.prog.stopKnobs == []) = true := by kernel_rfl
theorem sigsBounds_c9 : (Rows.sigsBoundsRow.inPlace == Try.prog.inPlace 31) = true := by kernel_rfl
theorem sigsBounds_c10 : (Rows.sigsBoundsRow.unfollowed == Try.prog.unfollowed 31) = true := by kernel_rfl
theorem sigsBounds_c11 : (Rows.sigsBoundsRow.recurses == Try.prog.recurses 31) = true := by kernel_rfl
theorem sigsBounds_c12 : (Rows.sigsBoundsRow.named == Try.prog.varsNamed 31) = true := by kernel_rfl
theorem sigsBounds_c13 : (Rows.sigsBoundsRow.maps == (Try.f31.params.toList ++ Rows.sigsBoundsSpec.plain.varTypes Try.prog).any (Try.prog.mapsRec ·)) = true := by kernel_rfl
theorem sigsBounds_c14 : (Rows.sigsBoundsRow.ifaces == (Try.f31.params.toList ++ Rows.sigsBoundsSpec.plain.varTypes Try.prog).any (Try.prog.ifacesRec ·)) = true := by kernel_rfl
theorem sigsBounds_c15 : (Rows.sigsBoundsRow.mapsOut == Try.prog.mapsAmong Try.f31.resultTypes.toList) = true := by kernel_rfl
theorem sigsBounds_c16 : (Rows.sigsBoundsRow.loops == (Try.f31.params.toList ++ Rows.sigsBoundsSpec.plain.varTypes Try.prog).any (Try.prog.loopsFrom ·)) = true := by kernel_rfl
theorem sigsBounds_c17 : (Rows.sigsBoundsRow.wideKeys == (Try.f31.params.toList ++ Rows.sigsBoundsSpec.plain.varTypes Try.prog ++ Try.f31.resultTypes.toList).any (Try.prog.wideKeysFrom ·)) = true := by kernel_rfl
theorem sigsBounds_c18 : (Rows.sigsBoundsSpec.vars.all (Try.prog.varReadable ·)) = true := by kernel_rfl
theorem sigsBounds_c19 : (Try.f31.resultTypes.all (fun t => Try.prog.readableRec t && decide (t < Try.prog.types.size))) = true := by kernel_rfl
theorem sigsBounds_c20 : (Rows.sigsBoundsRow.ifacesOut == Try.f31.resultTypes.toList.any (Try.prog.ifacesRec ·)) = true := by kernel_rfl
theorem sigsBounds_c21 : (Rows.sigsBoundsRow.loopsOut == Try.f31.resultTypes.toList.any (Try.prog.loopsFrom ·)) = true := by kernel_rfl
theorem sigsBounds_c22 : (Rows.sigsBoundsRow.plainKeys == Try.prog.plainKeys) = true := beq_of plainKeys_ok
theorem sigsBounds_c23 : (Rows.sigsBoundsRow.shortTexts.isNone) = true := by kernel_rfl
theorem sigsBounds_c26 : (Rows.sigsBoundsRow.lifted == Try.prog.liftsFinal) = true := beq_of liftsFinal_ok
theorem sigsBounds_c27 : (Try.prog.make == some Rows.sigsBoundsRow.make) = true := by rw [make_ok]; show _ = _; kernel_rfl
theorem sigsBounds_c28 : (Rows.sigsBoundsRow.kinds == (if Rows.sigsBoundsRow.domain.isEmpty then [] else Try.f31.params.toList.map fun t => match Try.prog.underlying t with | some (.int k) => some k | _ => none)) = true := by kernel_rfl
theorem sigsBounds_c29 : (Rows.sigsBoundsRow.pinned == Rows.sigsBoundsRow.pinnedBy) = true := by kernel_rfl
theorem sigsBounds_c30 : (Rows.sigsBoundsRow.veiled == (Try.f31.params.toList ++ Rows.sigsBoundsSpec.plain.varTypes Try.prog ++ Try.f31.resultTypes.toList).any (Try.prog.veiledRec ·)) = true := by kernel_rfl
theorem sigsBounds_c31 : (Rows.sigsBoundsRow.veiledFits Try.prog Try.f31.params.toList (Try.f31.params.toList ++ Rows.sigsBoundsSpec.plain.varTypes Try.prog ++ Try.f31.resultTypes.toList)) = true := by kernel_rfl
set_option maxRecDepth 1000000 in
theorem sigsBounds_closed : joinedFacts Try.prog 31 Try.f31 Rows.sigsBoundsSpec Rows.sigsBoundsRow = true := (and2 (and2 (and2 (and2 (and2 (and2 (and2 (and2 (and2 (and2 (and2 (and2 (and2 (and2 (and2 (and2 (and2 (and2 (and2 (and2 (and2 (and2 (and2 (and2 (and2 (and2 (and2 (and2 (and2 (and2 (and2 sigsBounds_c0 laidOut_ok) mapsRowed_ok) sigsBounds_c3) sigsBounds_c4) sigsBounds_c5) sigsBounds_c6) sigsBounds_c7) sigsBounds_c8) sigsBounds_c9) sigsBounds_c10) sigsBounds_c11) sigsBounds_c12) sigsBounds_c13) sigsBounds_c14) sigsBounds_c15) sigsBounds_c16) sigsBounds_c17) sigsBounds_c18) sigsBounds_c19) sigsBounds_c20) sigsBounds_c21) sigsBounds_c22) sigsBounds_c23) stopsHeard_ok) mayEnter_ok) sigsBounds_c26) sigsBounds_c27) sigsBounds_c28) sigsBounds_c29) sigsBounds_c30) sigsBounds_c31)
theorem sigsBounds_holds : Rows.SigsBoundsSaid :=
  OpenClaim.holds_of_wide 31 Try.f31 rfl rfl rfl rfl rfl rfl rfl ⟨rfl, rfl, rfl, rfl, rfl⟩ rfl rfl rfl rfl rfl (by kernel_rfl) Try.func31 sigsBounds_closed
    (of_decide_eq_true (by kernel_rfl)) (by unfold Func.isWrapper; first | (rw [if_pos (by decide +kernel)]; kernel_rfl) | (rw [if_neg (by decide +kernel)]; exact ⟨rfl, rfl⟩))
    (fun os started H enc _ => sigsBounds_lifted os started H enc)
end Go.Proofs.Ytjkelipglcnpmaa
