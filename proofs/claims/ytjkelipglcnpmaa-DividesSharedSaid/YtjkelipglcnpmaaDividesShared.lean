/- DividesShared: the row, proved: the frame is law_lifted (Fr), the walk is f15.ok, the plain law is f15.holds. -/
import Derived.Test.YtjkelipglcnpmaaFr
import Derived.Test.YtjkelipglcnpmaaPe
import Derived.Test.YtjkelipglcnpmaaRows
namespace Go.Proofs.Ytjkelipglcnpmaa
open Go.VM

set_option maxRecDepth 100000 in
theorem dividesShared_lifted (os : Os) (started : os.Started) (H : Type) (enc : TypeId × Value → H) :
    ReturnsInHanded {} Try.checked os 15 .any (Rows.dividesSharedSpec.pre6 enc Try.prog Try.f15 Rows.dividesSharedRow.domain false) (Rows.dividesSharedSpec.post enc Try.prog Try.f15 false true false false) := by
  refine law_lifted (C := Try.checked) (n := 8) (by kernel_rfl) started (by kernel_rfl) Try.func15
    (ChangeSpec.witness6 (enc := enc) (C := Try.checked) false ⟨#[], #[.agg #[.int .u64 0, .int .u64 0, .int .u64 0, .int .u64 0], .agg #[.int .u64 0, .int .u64 0, .int .u64 0, .int .u64 0], .int .u32 0], []⟩ 8 (by kernel_rfl) (by kernel_rfl) (by kernel_rfl) (by kernel_rfl)) ?_ rfl (tb := 4) rfl Try.underlying4 ?_ ?_
  · have h : (Try.f15.params.toList.all fun t => flat Try.prog 8 t) = true := by kernel_rfl
    exact List.all_eq_true.1 h
  · intro ds hds
    obtain ⟨d0, d1, d2, rfl⟩ := list3 (l := ds) hds
    rfl
  · intro W args hsz hr
    obtain ⟨v0, v1, v2, rfl⟩ := args3 (args := args) hsz
    obtain ⟨a0, h0, rfl⟩ := reads_num Try.underlying24 Try.underlying22 (by kernel_rfl) (by kernel_rfl) (hr 0 24 v0 rfl rfl)
    obtain ⟨a1, h1, rfl⟩ := reads_num Try.underlying24 Try.underlying22 (by kernel_rfl) (by kernel_rfl) (hr 1 24 v1 rfl rfl)
    obtain ⟨a2, h2, rfl⟩ := reads_int Try.underlying50 (hr 2 50 v2 rfl rfl)
    exact law_calls (f15.ok 1000) (vs := [.agg [.ints .u64 4 (num a0)], .agg [.ints .u64 4 (num a1)], .int .u32 a2]) (x := (num a0, num a1, a2)) (f15.holds a0 a1 a2 h0 h1 h2) (fun _ => by kernel_rfl) rfl W

theorem dividesShared_c0 : (Rows.dividesSharedRow.wf (OpenSpec.ofChange Rows.dividesSharedSpec)) = true := by kernel_rfl
theorem dividesShared_c3 : (Try.f15.params.all (Try.prog.readableRec ·)) = true := by kernel_rfl
theorem dividesShared_c4 : (namedTie Try.prog Rows.dividesSharedRow.named Rows.dividesSharedSpec.vars) = true := by kernel_rfl
theorem dividesShared_c5 : (Rows.dividesSharedRow.stops == []) = true := by kernel_rfl
theorem dividesShared_c6 : (Try.prog.stops == []) = true := by kernel_rfl
theorem dividesShared_c7 : (Rows.dividesSharedRow.knobs == []) = true := by kernel_rfl
theorem dividesShared_c8 : (Try.prog.stopKnobs == []) = true := by kernel_rfl
theorem dividesShared_c9 : (Rows.dividesSharedRow.inPlace == Try.prog.inPlace 15) = true := by kernel_rfl
theorem dividesShared_c10 : (Rows.dividesSharedRow.unfollowed == Try.prog.unfollowed 15) = true := by kernel_rfl
theorem dividesShared_c11 : (Rows.dividesSharedRow.recurses == Try.prog.recurses 15) = true := by kernel_rfl
theorem dividesShared_c12 : (Rows.dividesSharedRow.named == Try.prog.varsNamed 15) = true := by kernel_rfl
theorem dividesShared_c13 : (Rows.dividesSharedRow.maps == (Try.f15.params.toList ++ Rows.dividesSharedSpec.plain.varTypes Try.prog).any (Try.prog.mapsRec ·)) = true := by kernel_rfl
theorem dividesShared_c14 : (Rows.dividesSharedRow.ifaces == (Try.f15.params.toList ++ Rows.dividesSharedSpec.plain.varTypes Try.prog).any (Try.prog.ifacesRec ·)) = true := by kernel_rfl
theorem dividesShared_c15 : (Rows.dividesSharedRow.mapsOut == Try.prog.mapsAmong Try.f15.resultTypes.toList) = true := by kernel_rfl
theorem dividesShared_c16 : (Rows.dividesSharedRow.loops == (Try.f15.params.toList ++ Rows.dividesSharedSpec.plain.varTypes Try.prog).any (Try.prog.loopsFrom ·)) = true := by kernel_rfl
theorem dividesShared_c17 : (Rows.dividesSharedRow.wideKeys == (Try.f15.params.toList ++ Rows.dividesSharedSpec.plain.varTypes Try.prog ++ Try.f15.resultTypes.toList).any (Try.prog.wideKeysFrom ·)) = true := by kernel_rfl
theorem dividesShared_c18 : (Rows.dividesSharedSpec.vars.all (Try.prog.varReadable ·)) = true := by kernel_rfl
theorem dividesShared_c19 : (Try.f15.resultTypes.all (fun t => Try.prog.readableRec t && decide (t < Try.prog.types.size))) = true := by kernel_rfl
theorem dividesShared_c20 : (Rows.dividesSharedRow.ifacesOut == Try.f15.resultTypes.toList.any (Try.prog.ifacesRec ·)) = true := by kernel_rfl
theorem dividesShared_c21 : (Rows.dividesSharedRow.loopsOut == Try.f15.resultTypes.toList.any (Try.prog.loopsFrom ·)) = true := by kernel_rfl
theorem dividesShared_c22 : (Rows.dividesSharedRow.plainKeys == Try.prog.plainKeys) = true := beq_of plainKeys_ok
theorem dividesShared_c23 : (Rows.dividesSharedRow.shortTexts.isNone) = true := by kernel_rfl
theorem dividesShared_c26 : (Rows.dividesSharedRow.lifted == Try.prog.liftsFinal) = true := beq_of liftsFinal_ok
theorem dividesShared_c27 : (Try.prog.make == some Rows.dividesSharedRow.make) = true := by rw [make_ok]; show _ = _; kernel_rfl
theorem dividesShared_c28 : (Rows.dividesSharedRow.kinds == (if Rows.dividesSharedRow.domain.isEmpty then [] else Try.f15.params.toList.map fun t => match Try.prog.underlying t with | some (.int k) => some k | _ => none)) = true := by kernel_rfl
theorem dividesShared_c29 : (Rows.dividesSharedRow.pinned == Rows.dividesSharedRow.pinnedBy) = true := by kernel_rfl
theorem dividesShared_c30 : (Rows.dividesSharedRow.veiled == (Try.f15.params.toList ++ Rows.dividesSharedSpec.plain.varTypes Try.prog ++ Try.f15.resultTypes.toList).any (Try.prog.veiledRec ·)) = true := by kernel_rfl
theorem dividesShared_c31 : (Rows.dividesSharedRow.veiledFits Try.prog Try.f15.params.toList (Try.f15.params.toList ++ Rows.dividesSharedSpec.plain.varTypes Try.prog ++ Try.f15.resultTypes.toList)) = true := by kernel_rfl
set_option maxRecDepth 1000000 in
theorem dividesShared_closed : joinedFacts Try.prog 15 Try.f15 Rows.dividesSharedSpec Rows.dividesSharedRow = true := (and2 (and2 (and2 (and2 (and2 (and2 (and2 (and2 (and2 (and2 (and2 (and2 (and2 (and2 (and2 (and2 (and2 (and2 (and2 (and2 (and2 (and2 (and2 (and2 (and2 (and2 (and2 (and2 (and2 (and2 (and2 dividesShared_c0 laidOut_ok) mapsRowed_ok) dividesShared_c3) dividesShared_c4) dividesShared_c5) dividesShared_c6) dividesShared_c7) dividesShared_c8) dividesShared_c9) dividesShared_c10) dividesShared_c11) dividesShared_c12) dividesShared_c13) dividesShared_c14) dividesShared_c15) dividesShared_c16) dividesShared_c17) dividesShared_c18) dividesShared_c19) dividesShared_c20) dividesShared_c21) dividesShared_c22) dividesShared_c23) stopsHeard_ok) mayEnter_ok) dividesShared_c26) dividesShared_c27) dividesShared_c28) dividesShared_c29) dividesShared_c30) dividesShared_c31)

theorem dividesShared_holds : Rows.DividesSharedSaid :=
  OpenClaim.holds_of_wide 15 Try.f15 rfl rfl rfl rfl rfl rfl rfl ⟨rfl, rfl, rfl, rfl, rfl⟩ rfl rfl rfl rfl rfl (by kernel_rfl) Try.func15 dividesShared_closed
    (of_decide_eq_true (by kernel_rfl)) (by unfold Func.isWrapper; first | (rw [if_pos (by decide +kernel)]; kernel_rfl) | (rw [if_neg (by decide +kernel)]; exact ⟨rfl, rfl⟩))
    (fun os started H enc _ => dividesShared_lifted os started H enc)

end Go.Proofs.Ytjkelipglcnpmaa
