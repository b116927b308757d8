/- SigsBack: the row, proved: the frame is law_lifted (Fr), the walk is f30.ok, the plain law is f30.holds. -/
import Derived.Test.YtjkelipglcnpmaaFr
import Derived.Test.YtjkelipglcnpmaaFs
import Derived.Test.YtjkelipglcnpmaaFt
import Derived.Test.YtjkelipglcnpmaaPi
import Derived.Test.YtjkelipglcnpmaaRows
namespace Go.Proofs.Ytjkelipglcnpmaa
open Go.VM
set_option maxRecDepth 100000 in
theorem sigsBack_lifted (os : Os) (started : os.Started) (H : Type) (enc : TypeId × Value → H) :
    ReturnsInHanded {} Try.checked os 30 .any (Rows.sigsBackSpec.pre6 enc Try.prog Try.f30 Rows.sigsBackRow.domain false) (Rows.sigsBackSpec.post enc Try.prog Try.f30 false true false false) := by
  refine law_lifted (C := Try.checked) (n := 8) (by kernel_rfl) started (by kernel_rfl) Try.func30
    (ChangeSpec.witness6 (enc := enc) (C := Try.checked) false ⟨#[], #[.agg #[.int .u64 0, .int .u64 0, .int .u64 0, .int .u64 0, .int .u64 0, .int .u64 0, .int .u64 0, .int .u64 0, .int .u64 0, .int .u64 0, .int .u64 0, .int .u64 0], .agg #[.int .u64 0, .int .u64 0, .int .u64 0, .int .u64 0], .agg #[.int .u8 0, .int .u8 0, .int .u8 0, .int .u8 0, .int .u8 0, .int .u8 0, .int .u8 0, .int .u8 0, .int .u8 0, .int .u8 0, .int .u8 0, .int .u8 0, .int .u8 0, .int .u8 0, .int .u8 0, .int .u8 0, .int .u8 0, .int .u8 0, .int .u8 0, .int .u8 0, .int .u8 0, .int .u8 0, .int .u8 0, .int .u8 0, .int .u8 0, .int .u8 0, .int .u8 0, .int .u8 0, .int .u8 0, .int .u8 0, .int .u8 0, .int .u8 0]], []⟩ 8 (by kernel_rfl) (by kernel_rfl) (by kernel_rfl) (by kernel_rfl)) ?_ rfl (tb := 4) rfl Try.underlying4 ?_ ?_
  · have h : (Try.f30.params.toList.all fun t => flat Try.prog 8 t) = true := by kernel_rfl
    exact List.all_eq_true.1 h
  · intro ds hds
    obtain ⟨d0, d1, d2, rfl⟩ := list3 (l := ds) hds
    rfl
  · intro W args hsz hr
    obtain ⟨v0, v1, v2, rfl⟩ := args3 (args := args) hsz
    obtain ⟨a0_0, a0_1, a0_2, h0_0, h0_1, h0_2, rfl⟩ := reads3 Try.underlying24 Try.underlying22 (by kernel_rfl) (by kernel_rfl) Try.underlying57 ⟨rfl, rfl⟩ ⟨rfl, rfl⟩ ⟨rfl, rfl⟩ (by kernel_rfl) (hr 0 57 v0 rfl rfl)
    obtain ⟨a1, h1, rfl⟩ := reads_num Try.underlying24 Try.underlying22 (by kernel_rfl) (by kernel_rfl) (hr 1 24 v1 rfl rfl)
    obtain ⟨a2, h2, rfl⟩ := reads_octets Try.underlying70 Try.underlying5 (by kernel_rfl) (by kernel_rfl) (hr 2 70 v2 rfl rfl)
    exact law_calls (f30.ok 100000) (vs := [.agg [.ints .u64 4 (num a0_0), .ints .u64 4 (num a0_1), .ints .u64 4 (num a0_2)], .agg [.ints .u64 4 (num a1)], .agg [.ints .u8 32 a2]]) (x := (num a0_0, num a0_1, num a0_2, num a1, a2)) (f30.holds a0_0 a0_1 a0_2 a1 a2 h0_0 h0_1 h0_2 h1 h2) (fun _ => by kernel_rfl) rfl W
theorem sigsBack_c0 : (Rows.sigsBackRow.wf (OpenSpec.ofChange Rows.sigsBackSpec)) = true := by kernel_rfl
theorem sigsBack_c3 : (Try.f30.params.all (Try.prog.readableRec ·)) = true := by kernel_rfl
theorem sigsBack_c4 : (namedTie Try.prog Rows.sigsBackRow.named Rows.sigsBackSpec.vars) = true := by kernel_rfl
theorem sigsBack_c5 : (Rows.sigsBackRow.stops == []) = true := by kernel_rfl
theorem sigsBack_c6 : (Try.prog.stops == []) = true := by kernel_rfl
theorem sigsBack_c7 : (Rows.sigsBackRow.knobs == []) = true := by kernel_rfl
theorem sigsBack_c8 : (Try.prog.stopKnobs == []) = true := by kernel_rfl
theorem sigsBack_c9 : (Rows.sigsBackRow.inPlace == Try.prog.inPlace 30) = true := by kernel_rfl
theorem sigsBack_c10 : (Rows.sigsBackRow.unfollowed == Try.prog.unfollowed 30) = true := by kernel_rfl
theorem sigsBack_c11 : (Rows.sigsBackRow.recurses == Try.prog.recurses 30) = true := by kernel_rfl
theorem sigsBack_c12 : (Rows.sigsBackRow.named == Try.prog.varsNamed 30) = true := by kernel_rfl
theorem sigsBack_c13 : (Rows.sigsBackRow.maps == (Try.f30.params.toList ++ Rows.sigsBackSpec.plain.varTypes Try.prog).any (Try.prog.mapsRec ·)) = true := by kernel_rfl
theorem sigsBack_c14 : (Rows.sigsBackRow.ifaces == (Try.f30.params.toList ++ Rows.sigsBackSpec.plain.varTypes Try.prog).any (Try.prog.ifacesRec ·)) = true := by kernel_rfl
theorem sigsBack_c15 : (Rows.sigsBackRow.mapsOut == Try.prog.mapsAmong Try.f30.resultTypes.toList) = true := by kernel_rfl
theorem sigsBack_c16 : (Rows.sigsBackRow.loops == (Try.f30.params.toList ++ Rows.sigsBackSpec.plain.varTypes Try.prog).any (Try.prog.loopsFrom ·)) = true := by kernel_rfl
theorem sigsBack_c17 : (Rows.sigsBackRow.wideKeys == (Try.f30.params.toList ++ Rows.sigsBackSpec.plain.varTypes Try.prog ++ Try.f30.resultTypes.toList).any (Try.prog.wideKeysFrom ·)) = true := by kernel_rfl
theorem sigsBack_c18 : (Rows.sigsBackSpec.vars.all (Try.prog.varReadable ·)) = true := by kernel_rfl
theorem sigsBack_c19 : (Try.f30.resultTypes.all (fun t => Try.prog.readableRec t && decide (t < Try.prog.types.size))) = true := by kernel_rfl
theorem sigsBack_c20 : (Rows.sigsBackRow.ifacesOut == Try.f30.resultTypes.toList.any (Try.prog.ifacesRec ·)) = true := by kernel_rfl
theorem sigsBack_c21 : (Rows.sigsBackRow.loopsOut == Try.f30.resultTypes.toList.any (Try.prog.loopsFrom ·)) = true := by kernel_rfl
theorem sigsBack_c22 : (Rows.sigsBackRow.plainKeys == Try.prog.plainKeys) = true := beq_of plainKeys_ok
theorem sigsBack_c23 : (Rows.sigsBackRow.shortTexts.isNone) = true := by kernel_rfl
theorem sigsBack_c26 : (Rows.sigsBackRow.lifted == Try.prog.liftsFinal) = true := beq_of liftsFinal_ok
theorem sigsBack_c27 : (Try.prog.make == some Rows.sigsBackRow.make) = true := by rw [make_ok]; show _ = _; kernel_rfl
theorem sigsBack_c28 : (Rows.sigsBackRow.kinds == (if Rows.sigsBackRow.domain.isEmpty then [] else Try.f30.params.toList.map fun t => match Try.prog.underlying t with | some (.int k) => some k | _ => none)) = true := by kernel_rfl
theorem sigsBack_c29 : (Rows.sigsBackRow.pinned == Rows.sigsBackRow.pinnedBy) = true := by kernel_rfl
theorem sigsBack_c30 : (Rows.sigsBackRow.veiled == (Try.f30.params.toList ++ Rows.sigsBackSpec.plain.varTypes Try.prog ++ Try.f30.resultTypes.toList).any (Try.prog.veiledRec ·)) = true := by kernel_rfl
theorem sigsBack_c31 : (Rows.sigsBackRow.veiledFits Try.prog Try.f30.params.toList (Try.f30.params.toList ++ Rows.sigsBackSpec.plain.varTypes Try.prog ++ Try.f30.resultTypes.toList)) = true := by kernel_rfl
set_option maxRecDepth 1000000 in
theorem sigsBack_closed : joinedFacts Try.prog 30 Try.f30 Rows.sigsBackSpec Rows.sigsBackRow = true := (and2 (and2 (and2 (and2 (and2 (and2 (and2 (and2 (and2 (and2 (and2 (and2 (and2 (and2 (and2 (and2 (and2 (and2 (and2 (and2 (and2 (and2 (and2 (and2 (and2 (and2 (and2 (and2 (and2 (and2 (and2 sigsBack_c0 laidOut_ok) mapsRowed_ok) sigsBack_c3) sigsBack_c4) sigsBack_c5) sigsBack_c6) sigsBack_c7) sigsBack_c8) sigsBack_c9) sigsBack_c10) sigsBack_c11) sigsBack_c12) sigsBack_c13) sigsBack_c14) sigsBack_c15) sigsBack_c16) sigsBack_c17) sigsBack_c18) sigsBack_c19) sigsBack_c20) sigsBack_c21) sigsBack_c22) sigsBack_c23) stopsHeard_ok) mayEnter_ok) sigsBack_c26) sigsBack_c27) sigsBack_c28) sigsBack_c29) sigsBack_c30) sigsBack_c31)
theorem sigsBack_holds : Rows.SigsBackSaid :=
  OpenClaim.holds_of_wide 30 Try.f30 rfl rfl rfl rfl rfl rfl rfl ⟨rfl, rfl, rfl, rfl, rfl⟩ rfl rfl rfl rfl rfl (by kernel_rfl) Try.func30 sigsBack_closed
    (of_decide_eq_true (by kernel_rfl)) (by unfold Func.isWrapper; first | (rw [if_pos (by decide +kernel)]; kernel_rfl) | (rw [if_neg (by decide +kernel)]; exact ⟨rfl, rfl⟩))
    (fun os started H enc _ => sigsBack_lifted os started H enc)
end Go.Proofs.Ytjkelipglcnpmaa
