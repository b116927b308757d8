/- SigsKeys: the row, proved: the frame is law_lifted (Fr), the walk is f23.ok, the plain law is f23.holds. -/
import Derived.Test.YtjkelipglcnpmaaFr
import Derived.Test.YtjkelipglcnpmaaFs
import Derived.Test.YtjkelipglcnpmaaPg
import Derived.Test.YtjkelipglcnpmaaRows
namespace Go.Proofs.Ytjkelipglcnpmaa
open Go.VM

set_option maxRecDepth 100000 in
theorem sigsKeys_lifted (os : Os) (started : os.Started) (H : Type) (enc : TypeId × Value → H) :
    ReturnsInHanded {} Try.checked os 23 .any (Rows.sigsKeysSpec.pre6 enc Try.prog Try.f23 Rows.sigsKeysRow.domain false) (Rows.sigsKeysSpec.post enc Try.prog Try.f23 false true false false) := by
  refine law_lifted (C := Try.checked) (n := 8) (by kernel_rfl) started (by kernel_rfl) Try.func23
    (ChangeSpec.witness6 (enc := enc) (C := Try.checked) false ⟨#[], #[.agg #[.int .u64 0, .int .u64 0, .int .u64 0, .int .u64 0, .int .u64 0, .int .u64 0, .int .u64 0, .int .u64 0, .int .u64 0, .int .u64 0, .int .u64 0, .int .u64 0], .agg #[.int .u64 0, .int .u64 0, .int .u64 0, .int .u64 0], .agg #[.int .u64 0, .int .u64 0, .int .u64 0, .int .u64 0]], []⟩ 8 (by kernel_rfl) (by kernel_rfl) (by kernel_rfl) (by kernel_rfl)) ?_ rfl (tb := 4) rfl Try.underlying4 ?_ ?_
  · have h : (Try.f23.params.toList.all fun t => flat Try.prog 8 t) = true := by kernel_rfl
    exact List.all_eq_true.1 h
  · intro ds hds
    obtain ⟨d0, d1, d2, rfl⟩ := list3 (l := ds) hds
    rfl
  · intro W args hsz hr
    obtain ⟨v0, v1, v2, rfl⟩ := args3 (args := args) hsz
    obtain ⟨a0_0, a0_1, a0_2, h0_0, h0_1, h0_2, rfl⟩ := reads3 Try.underlying24 Try.underlying22 (by kernel_rfl) (by kernel_rfl) Try.underlying57 ⟨rfl, rfl⟩ ⟨rfl, rfl⟩ ⟨rfl, rfl⟩ (by kernel_rfl) (hr 0 57 v0 rfl rfl)
    obtain ⟨a1, h1, rfl⟩ := reads_num Try.underlying24 Try.underlying22 (by kernel_rfl) (by kernel_rfl) (hr 1 24 v1 rfl rfl)
    obtain ⟨a2, h2, rfl⟩ := reads_num Try.underlying24 Try.underlying22 (by kernel_rfl) (by kernel_rfl) (hr 2 24 v2 rfl rfl)
    exact law_calls (f23.ok 1000) (vs := [.agg [.ints .u64 4 (num a0_0), .ints .u64 4 (num a0_1), .ints .u64 4 (num a0_2)], .agg [.ints .u64 4 (num a1)], .agg [.ints .u64 4 (num a2)]]) (x := (num a0_0, num a0_1, num a0_2, num a1, num a2)) (f23.holds a0_0 a0_1 a0_2 a1 a2 h0_0 h0_1 h0_2 h1 h2) (fun _ => by kernel_rfl) rfl W

theorem sigsKeys_c0 : (Rows.sigsKeysRow.wf (OpenSpec.ofChange Rows.sigsKeysSpec)) = true := by kernel_rfl
theorem sigsKeys_c3 : (Try.f23.params.all (Try.prog.readableRec ·)) = true := by kernel_rfl
theorem sigsKeys_c4 : (namedTie Try.prog Rows.sigsKeysRow.named Rows.sigsKeysSpec.vars) = true := by kernel_rfl
theorem sigsKeys_c5 : (Rows.sigsKeysRow.stops == []) = true := by kernel_rfl
theorem sigsKeys_c6 : (Try.prog.stops == []) = true := by kernel_rfl
theorem sigsKeys_c7 : (Rows.sigsKeysRow.knobs == []) = true := by kernel_rfl
theorem sigsKeys_c8 : (Try.prog.stopKnobs == []) = true := by kernel_rfl
theorem sigsKeys_c9 : (Rows.sigsKeysRow.inPlace == Try.prog.inPlace 23) = true := by kernel_rfl
theorem sigsKeys_c10 : (Rows.sigsKeysRow.unfollowed == Try.prog.unfollowed 23) = true := by kernel_rfl
theorem sigsKeys_c11 : (Rows.sigsKeysRow.recurses == Try.prog.recurses 23) = true := by kernel_rfl
theorem sigsKeys_c12 : (Rows.sigsKeysRow.named == Try.prog.varsNamed 23) = true := by kernel_rfl
theorem sigsKeys_c13 : (Rows.sigsKeysRow.maps == (Try.f23.params.toList ++ Rows.sigsKeysSpec.plain.varTypes Try.prog).any (Try.prog.mapsRec ·)) = true := by kernel_rfl
theorem sigsKeys_c14 : (Rows.sigsKeysRow.ifaces == (Try.f23.params.toList ++ Rows.sigsKeysSpec.plain.varTypes Try.prog).any (Try.prog.ifacesRec ·)) = true := by kernel_rfl
theorem sigsKeys_c15 : (Rows.sigsKeysRow.mapsOut == Try.prog.mapsAmong Try.f23.resultTypes.toList) = true := by kernel_rfl
theorem sigsKeys_c16 : (Rows.sigsKeysRow.loops == (Try.f23.params.toList ++ Rows.sigsKeysSpec.plain.varTypes Try.prog).any (Try.prog.loopsFrom ·)) = true := by kernel_rfl
theorem sigsKeys_c17 : (Rows.sigsKeysRow.wideKeys == (Try.f23.params.toList ++ Rows.sigsKeysSpec.plain.varTypes Try.prog ++ Try.f23.resultTypes.toList).any (Try.prog.wideKeysFrom ·)) = true := by kernel_rfl
theorem sigsKeys_c18 : (Rows.sigsKeysSpec.vars.all (Try.prog.varReadable ·)) = true := by kernel_rfl
theorem sigsKeys_c19 : (Try.f23.resultTypes.all (fun t => Try.prog.readableRec t && decide (t < Try.prog.types.size))) = true := by kernel_rfl
theorem sigsKeys_c20 : (Rows.sigsKeysRow.ifacesOut == Try.f23.resultTypes.toList.any (Try.prog.ifacesRec ·)) = true := by kernel_rfl
theorem sigsKeys_c21 : (Rows.sigsKeysRow.loopsOut == Try.f23.resultTypes.toList.any (Try.prog.loopsFrom ·)) = true := by kernel_rfl
theorem sigsKeys_c22 : (Rows.sigsKeysRow.plainKeys == Try.prog.plainKeys) = true := beq_of plainKeys_ok
theorem sigsKeys_c23 : (Rows.sigsKeysRow.shortTexts.isNone) = true := by kernel_rfl
theorem sigsKeys_c26 : (Rows.sigsKeysRow.lifted == Try.prog.liftsFinal) = true := beq_of liftsFinal_ok
theorem sigsKeys_c27 : (Try.prog.make == some Rows.sigsKeysRow.make) = true := by rw [make_ok]; show _ = _; kernel_rfl
theorem sigsKeys_c28 : (Rows.sigsKeysRow.kinds == (if Rows.sigsKeysRow.domain.isEmpty then [] else Try.f23.params.toList.map fun t => match Try.prog.underlying t with | some (.int k) => some k | _ => none)) = true := by kernel_rfl
theorem sigsKeys_c29 : (Rows.sigsKeysRow.pinned == Rows.sigsKeysRow.pinnedBy) = true := by kernel_rfl
theorem sigsKeys_c30 : (Rows.sigsKeysRow.veiled == (Try.f23.params.toList ++ Rows.sigsKeysSpec.plain.varTypes Try.prog ++ Try.f23.resultTypes.toList).any (Try.prog.veiledRec ·)) = true := by kernel_rfl
theorem sigsKeys_c31 : (Rows.sigsKeysRow.veiledFits Try.prog Try.f23.params.toList (Try.f23.params.toList ++ Rows.sigsKeysSpec.plain.varTypes Try.prog ++ Try.f23.resultTypes.toList)) = true := by kernel_rfl
set_option maxRecDepth 1000000 in
theorem sigsKeys_closed : joinedFacts Try.prog 23 Try.f23 Rows.sigsKeysSpec Rows.sigsKeysRow = true := (and2 (and2 (and2 (and2 (and2 (and2 (and2 (and2 (and2 (and2 (and2 (and2 (and2 (and2 (and2 (and2 (and2 (and2 (and2 (and2 (and2 (and2 (and2 (and2 (and2 (and2 (and2 (and2 (and2 (and2 (and2 sigsKeys_c0 laidOut_ok) mapsRowed_ok) sigsKeys_c3) sigsKeys_c4) sigsKeys_c5) sigsKeys_c6) sigsKeys_c7) sigsKeys_c8) sigsKeys_c9) sigsKeys_c10) sigsKeys_c11) sigsKeys_c12) sigsKeys_c13) sigsKeys_c14) sigsKeys_c15) sigsKeys_c16) sigsKeys_c17) sigsKeys_c18) sigsKeys_c19) sigsKeys_c20) sigsKeys_c21) sigsKeys_c22) sigsKeys_c23) stopsHeard_ok) mayEnter_ok) sigsKeys_c26) sigsKeys_c27) sigsKeys_c28) sigsKeys_c29) sigsKeys_c30) sigsKeys_c31)

theorem sigsKeys_holds : Rows.SigsKeysSaid :=
  OpenClaim.holds_of_wide 23 Try.f23 rfl rfl rfl rfl rfl rfl rfl ⟨rfl, rfl, rfl, rfl, rfl⟩ rfl rfl rfl rfl rfl (by kernel_rfl) Try.func23 sigsKeys_closed
    (of_decide_eq_true (by kernel_rfl)) (by unfold Func.isWrapper; first | (rw [if_pos (by decide +kernel)]; kernel_rfl) | (rw [if_neg (by decide +kernel)]; exact ⟨rfl, rfl⟩))
    (fun os started H enc _ => sigsKeys_lifted os started H enc)

end Go.Proofs.Ytjkelipglcnpmaa
