/- ModsBeyond: the row, proved: the frame is law_lifted (Fr), the walk is f22.ok, the plain law is f22.holds. -/
import Derived.Test.YtjkelipglcnpmaaFr
import Derived.Test.YtjkelipglcnpmaaPm
import Derived.Test.YtjkelipglcnpmaaRows
namespace Go.Proofs.Ytjkelipglcnpmaa
open Go.VM

set_option maxRecDepth 100000 in
theorem modsBeyond_lifted (os : Os) (started : os.Started) (H : Type) (enc : TypeId × Value → H) :
    ReturnsInHanded {} Try.checked os 22 .any (Rows.modsBeyondSpec.pre6 enc Try.prog Try.f22 Rows.modsBeyondRow.domain false) (Rows.modsBeyondSpec.post enc Try.prog Try.f22 false true false false) := by
  refine law_lifted (C := Try.checked) (n := 8) (by kernel_rfl) started (by kernel_rfl) Try.func22
    (ChangeSpec.witness6 (enc := enc) (C := Try.checked) false ⟨#[], #[.agg #[.int .u64 0, .int .u64 0, .int .u64 0, .int .u64 0], .agg #[.int .u64 0, .int .u64 0, .int .u64 0, .int .u64 0], .agg #[.int .u64 0, .int .u64 0, .int .u64 0, .int .u64 0]], []⟩ 8 (by kernel_rfl) (by kernel_rfl) (by kernel_rfl) (by kernel_rfl)) ?_ rfl (tb := 4) rfl Try.underlying4 ?_ ?_
  · have h : (Try.f22.params.toList.all fun t => flat Try.prog 8 t) = true := by kernel_rfl
    exact List.all_eq_true.1 h
  · intro ds hds
    obtain ⟨d0, d1, d2, rfl⟩ := list3 (l := ds) hds
    rfl
  · intro W args hsz hr
    obtain ⟨v0, v1, v2, rfl⟩ := args3 (args := args) hsz
    obtain ⟨a0, h0, rfl⟩ := reads_num Try.underlying24 Try.underlying22 (by kernel_rfl) (by kernel_rfl) (hr 0 24 v0 rfl rfl)
    obtain ⟨a1, h1, rfl⟩ := reads_num Try.underlying24 Try.underlying22 (by kernel_rfl) (by kernel_rfl) (hr 1 24 v1 rfl rfl)
    obtain ⟨a2, h2, rfl⟩ := reads_num Try.underlying24 Try.underlying22 (by kernel_rfl) (by kernel_rfl) (hr 2 24 v2 rfl rfl)
    exact law_calls (f22.ok 1000) (vs := [.agg [.ints .u64 4 (num a0)], .agg [.ints .u64 4 (num a1)], .agg [.ints .u64 4 (num a2)]]) (x := (num a0, num a1, num a2)) (f22.holds a0 a1 a2 h0 h1 h2) (fun _ => by kernel_rfl) rfl W

theorem modsBeyond_c0 : (Rows.modsBeyondRow.wf (OpenSpec.ofChange Rows.modsBeyondSpec)) = true := by kernel_rfl
theorem modsBeyond_c3 : (Try.f22.params.all (Try.prog.readableRec ·)) = true := by kernel_rfl
theorem modsBeyond_c4 : (namedTie Try.prog Rows.modsBeyondRow.named Rows.modsBeyondSpec.vars) = true := by kernel_rfl
theorem modsBeyond_c5 : (Rows.modsBeyondRow.stops == []) = true := by kernel_rfl
theorem modsBeyond_c6 : (Try.prog.stops == []) = true := by kernel_rfl
theorem modsBeyond_c7 : (Rows.modsBeyondRow.knobs == []) = true := by kernel_rfl
theorem modsBeyond_c8 : (Try.prog.stopKnobs == []) = true := by kernel_rfl
theorem modsBeyond_c9 : (Rows.modsBeyondRow.inPlace == Try.prog.inPlace 22) = true := by kernel_rfl
theorem modsBeyond_c10 : (Rows.modsBeyondRow.unfollowed == Try.prog.unfollowed 22) = true := by kernel_rfl
theorem modsBeyond_c11 : (Rows.modsBeyondRow.recurses == Try.prog.recurses 22) = true := by kernel_rfl
theorem modsBeyond_c12 : (Rows.modsBeyondRow.named == Try.prog.varsNamed 22) = true := by kernel_rfl
theorem modsBeyond_c13 : (Rows.modsBeyondRow.maps == (Try.f22.params.toList ++ Rows.modsBeyondSpec.plain.varTypes Try.prog).any (Try.prog.mapsRec ·)) = true := by kernel_rfl
theorem modsBeyond_c14 : (Rows.modsBeyondRow.ifaces == (Try.f22.params.toList ++ Rows.modsBeyondSpec.plain.varTypes Try.prog).any (Try.prog.ifacesRec ·)) = true := by kernel_rfl
theorem modsBeyond_c15 : (Rows.modsBeyondRow.mapsOut == Try.prog.mapsAmong Try.f22.resultTypes.toList) = true := by kernel_rfl
theorem modsBeyond_c16 : (Rows.modsBeyondRow.loops == (Try.f22.params.toList ++ Rows.modsBeyondSpec.plain.varTypes Try.prog).any (Try.prog.loopsFrom ·)) = true := by kernel_rfl
theorem modsBeyond_c17 : (Rows.modsBeyondRow.wideKeys == (Try.f22.params.toList ++ Rows.modsBeyondSpec.plain.varTypes Try.prog ++ Try.f22.resultTypes.toList).any (Try.prog.wideKeysFrom ·)) = true := by kernel_rfl
theorem modsBeyond_c18 : (Rows.modsBeyondSpec.vars.all (Try.prog.varReadable ·)) = true := by kernel_rfl
theorem modsBeyond_c19 : (Try.f22.resultTypes.all (fun t => Try.prog.readableRec t && decide (t < Try.prog.types.size))) = true := by kernel_rfl
theorem modsBeyond_c20 : (Rows.modsBeyondRow.ifacesOut == Try.f22.resultTypes.toList.any (Try.prog.ifacesRec ·)) = true := by kernel_rfl
theorem modsBeyond_c21 : (Rows.modsBeyondRow.loopsOut == Try.f22.resultTypes.toList.any (Try.prog.loopsFrom ·)) = true := by kernel_rfl
theorem modsBeyond_c22 : (Rows.modsBeyondRow.plainKeys == Try.prog.plainKeys) = true := beq_of plainKeys_ok
theorem modsBeyond_c23 : (Rows.modsBeyondRow.shortTexts.isNone) = true := by kernel_rfl
theorem modsBeyond_c26 : (Rows.modsBeyondRow.lifted == Try.prog.liftsFinal) = true := beq_of liftsFinal_ok
theorem modsBeyond_c27 : (Try.prog.make == some Rows.modsBeyondRow.make) = true := by rw [make_ok]; show _ = _; kernel_rfl
theorem modsBeyond_c28 : (Rows.modsBeyondRow.kinds == (if Rows.modsBeyondRow.domain.isEmpty then [] else Try.f22.params.toList.map fun t => match Try.prog.underlying t with | some (.int k) => some k | _ => none)) = true := by kernel_rfl
theorem modsBeyond_c29 : (Rows.modsBeyondRow.pinned == Rows.modsBeyondRow.pinnedBy) = true := by kernel_rfl
theorem modsBeyond_c30 : (Rows.modsBeyondRow.veiled == (Try.f22.params.toList ++ Rows.modsBeyondSpec.plain.varTypes Try.prog ++ Try.f22.resultTypes.toList).any (Try.prog.veiledRec ·)) = true := by kernel_rfl
theorem modsBeyond_c31 : (Rows.modsBeyondRow.veiledFits Try.prog Try.f22.params.toList (Try.f22.params.toList ++ Rows.modsBeyondSpec.plain.varTypes Try.prog ++ Try.f22.resultTypes.toList)) = true := by kernel_rfl
set_option maxRecDepth 1000000 in
theorem modsBeyond_closed : joinedFacts Try.prog 22 Try.f22 Rows.modsBeyondSpec Rows.modsBeyondRow = true := (and2 (and2 (and2 (and2 (and2 (and2 (and2 (and2 (and2 (and2 (and2 (and2 (and2 (and2 (and2 (and2 (and2 (and2 (and2 (and2 (and2 (and2 (and2 (and2 (and2 (and2 (and2 (and2 (and2 (and2 (and2 modsBeyond_c0 laidOut_ok) mapsRowed_ok) modsBeyond_c3) modsBeyond_c4) modsBeyond_c5) modsBeyond_c6) modsBeyond_c7) modsBeyond_c8) modsBeyond_c9) modsBeyond_c10) modsBeyond_c11) modsBeyond_c12) modsBeyond_c13) modsBeyond_c14) modsBeyond_c15) modsBeyond_c16) modsBeyond_c17) modsBeyond_c18) modsBeyond_c19) modsBeyond_c20) modsBeyond_c21) modsBeyond_c22) modsBeyond_c23) stopsHeard_ok) mayEnter_ok) modsBeyond_c26) modsBeyond_c27) modsBeyond_c28) modsBeyond_c29) modsBeyond_c30) modsBeyond_c31)

theorem modsBeyond_holds : Rows.ModsBeyondSaid :=
  OpenClaim.holds_of_wide 22 Try.f22 rfl rfl rfl rfl rfl rfl rfl ⟨rfl, rfl, rfl, rfl, rfl⟩ rfl rfl rfl rfl rfl (by kernel_rfl) Try.func22 modsBeyond_closed
    (of_decide_eq_true (by kernel_rfl)) (by unfold Func.isWrapper; first | (rw [if_pos (by decide +kernel)]; kernel_rfl) | (rw [if_neg (by decide +kernel)]; exact ⟨rfl, rfl⟩))
    (fun os started H enc _ => modsBeyond_lifted os started H enc)

end Go.Proofs.Ytjkelipglcnpmaa
