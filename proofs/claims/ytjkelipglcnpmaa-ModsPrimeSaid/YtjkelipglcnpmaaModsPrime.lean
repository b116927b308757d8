/- ModsPrime: the row, proved: the frame is law_lifted (Fr), the walk is f21.ok, the plain law is f21.holds. -/
import Derived.Test.YtjkelipglcnpmaaFr
import Derived.Test.YtjkelipglcnpmaaPn
import Derived.Test.YtjkelipglcnpmaaRows
namespace Go.Proofs.Ytjkelipglcnpmaa
open Go.VM

set_option maxRecDepth 100000 in
theorem modsPrime_lifted (os : Os) (started : os.Started) (H : Type) (enc : TypeId × Value → H) :
    ReturnsInHanded {} Try.checked os 21 .any (Rows.modsPrimeSpec.pre6 enc Try.prog Try.f21 Rows.modsPrimeRow.domain false) (Rows.modsPrimeSpec.post enc Try.prog Try.f21 false true false false) := by
  refine law_lifted (C := Try.checked) (n := 8) (by kernel_rfl) started (by kernel_rfl) Try.func21
    (ChangeSpec.witness6 (enc := enc) (C := Try.checked) false ⟨#[], #[.int .u16 0, .agg #[.int .u64 0, .int .u64 0, .int .u64 0, .int .u64 0]], []⟩ 8 (by kernel_rfl) (by kernel_rfl) (by kernel_rfl) (by kernel_rfl)) ?_ rfl (tb := 4) rfl Try.underlying4 ?_ ?_
  · have h : (Try.f21.params.toList.all fun t => flat Try.prog 8 t) = true := by kernel_rfl
    exact List.all_eq_true.1 h
  · intro ds hds
    obtain ⟨d0, d1, rfl⟩ := list2 (l := ds) hds
    rfl
  · intro W args hsz hr
    obtain ⟨v0, v1, rfl⟩ := args2 (args := args) hsz
    obtain ⟨a0, h0, rfl⟩ := reads_int Try.underlying53 (hr 0 53 v0 rfl rfl)
    obtain ⟨a1, h1, rfl⟩ := reads_num Try.underlying24 Try.underlying22 (by kernel_rfl) (by kernel_rfl) (hr 1 24 v1 rfl rfl)
    exact law_calls (f21.ok 1000) (vs := [.int .u16 a0, .agg [.ints .u64 4 (num a1)]]) (x := (a0, num a1)) (f21.holds a0 a1 h0 h1) (fun _ => by kernel_rfl) rfl W

theorem modsPrime_c0 : (Rows.modsPrimeRow.wf (OpenSpec.ofChange Rows.modsPrimeSpec)) = true := by kernel_rfl
theorem modsPrime_c3 : (Try.f21.params.all (Try.prog.readableRec ·)) = true := by kernel_rfl
theorem modsPrime_c4 : (namedTie Try.prog Rows.modsPrimeRow.named Rows.modsPrimeSpec.vars) = true := by kernel_rfl
theorem modsPrime_c5 : (Rows.modsPrimeRow.stops == []) = true := by kernel_rfl
theorem modsPrime_c6 : (Try.prog.stops == []) = true := by kernel_rfl
theorem modsPrime_c7 : (Rows.modsPrimeRow.knobs == []) = true := by kernel_rfl
theorem modsPrime_c8 : (Try.prog.stopKnobs == []) = true := by kernel_rfl
theorem modsPrime_c9 : (Rows.modsPrimeRow.inPlace == Try.prog.inPlace 21) = true := by kernel_rfl
theorem modsPrime_c10 : (Rows.modsPrimeRow.unfollowed == Try.prog.unfollowed 21) = true := by kernel_rfl
theorem modsPrime_c11 : (Rows.modsPrimeRow.recurses == Try.prog.recurses 21) = true := by kernel_rfl
theorem modsPrime_c12 : (Rows.modsPrimeRow.named == Try.prog.varsNamed 21) = true := by kernel_rfl
theorem modsPrime_c13 : (Rows.modsPrimeRow.maps == (Try.f21.params.toList ++ Rows.modsPrimeSpec.plain.varTypes Try.prog).any (Try.prog.mapsRec ·)) = true := by kernel_rfl
theorem modsPrime_c14 : (Rows.modsPrimeRow.ifaces == (Try.f21.params.toList ++ Rows.modsPrimeSpec.plain.varTypes Try.prog).any (Try.prog.ifacesRec ·)) = true := by kernel_rfl
theorem modsPrime_c15 : (Rows.modsPrimeRow.mapsOut == Try.prog.mapsAmong Try.f21.resultTypes.toList) = true := by kernel_rfl
theorem modsPrime_c16 : (Rows.modsPrimeRow.loops == (Try.f21.params.toList ++ Rows.modsPrimeSpec.plain.varTypes Try.prog).any (Try.prog.loopsFrom ·)) = true := by kernel_rfl
theorem modsPrime_c17 : (Rows.modsPrimeRow.wideKeys == (Try.f21.params.toList ++ Rows.modsPrimeSpec.plain.varTypes Try.prog ++ Try.f21.resultTypes.toList).any (Try.prog.wideKeysFrom ·)) = true := by kernel_rfl
theorem modsPrime_c18 : (Rows.modsPrimeSpec.vars.all (Try.prog.varReadable ·)) = true := by kernel_rfl
theorem modsPrime_c19 : (Try.f21.resultTypes.all (fun t => Try.prog.readableRec t && decide (t < Try.prog.types.size))) = true := by kernel_rfl
theorem modsPrime_c20 : (Rows.modsPrimeRow.ifacesOut == Try.f21.resultTypes.toList.any (Try.prog.ifacesRec ·)) = true := by kernel_rfl
theorem modsPrime_c21 : (Rows.modsPrimeRow.loopsOut == Try.f21.resultTypes.toList.any (Try.prog.loopsFrom ·)) = true := by kernel_rfl
theorem modsPrime_c22 : (Rows.modsPrimeRow.plainKeys == Try.prog.plainKeys) = true := beq_of plainKeys_ok
theorem modsPrime_c23 : (Rows.modsPrimeRow.shortTexts.isNone) = true := by kernel_rfl
theorem modsPrime_c26 : (Rows.modsPrimeRow.lifted == Try.prog.liftsFinal) = true := beq_of liftsFinal_ok
theorem modsPrime_c27 : (Try.prog.make == some Rows.modsPrimeRow.make) = true := by rw [make_ok]; show _ = _; kernel_rfl
theorem modsPrime_c28 : (Rows.modsPrimeRow.kinds == (if Rows.modsPrimeRow.domain.isEmpty then [] else Try.f21.params.toList.map fun t => match Try.prog.underlying t with | some (.int k) => some k | _ => none)) = true := by kernel_rfl
theorem modsPrime_c29 : (Rows.modsPrimeRow.pinned == Rows.modsPrimeRow.pinnedBy) = true := by kernel_rfl
theorem modsPrime_c30 : (Rows.modsPrimeRow.veiled == (Try.f21.params.toList ++ Rows.modsPrimeSpec.plain.varTypes Try.prog ++ Try.f21.resultTypes.toList).any (Try.prog.veiledRec ·)) = true := by kernel_rfl
theorem modsPrime_c31 : (Rows.modsPrimeRow.veiledFits Try.prog Try.f21.params.toList (Try.f21.params.toList ++ Rows.modsPrimeSpec.plain.varTypes Try.prog ++ Try.f21.resultTypes.toList)) = true := by kernel_rfl
set_option maxRecDepth 1000000 in
theorem modsPrime_closed : joinedFacts Try.prog 21 Try.f21 Rows.modsPrimeSpec Rows.modsPrimeRow = true := (and2 (and2 (and2 (and2 (and2 (and2 (and2 (and2 (and2 (and2 (and2 (and2 (and2 (and2 (and2 (and2 (and2 (and2 (and2 (and2 (and2 (and2 (and2 (and2 (and2 (and2 (and2 (and2 (and2 (and2 (and2 modsPrime_c0 laidOut_ok) mapsRowed_ok) modsPrime_c3) modsPrime_c4) modsPrime_c5) modsPrime_c6) modsPrime_c7) modsPrime_c8) modsPrime_c9) modsPrime_c10) modsPrime_c11) modsPrime_c12) modsPrime_c13) modsPrime_c14) modsPrime_c15) modsPrime_c16) modsPrime_c17) modsPrime_c18) modsPrime_c19) modsPrime_c20) modsPrime_c21) modsPrime_c22) modsPrime_c23) stopsHeard_ok) mayEnter_ok) modsPrime_c26) modsPrime_c27) modsPrime_c28) modsPrime_c29) modsPrime_c30) modsPrime_c31)

theorem modsPrime_holds : Rows.ModsPrimeSaid :=
  OpenClaim.holds_of_wide 21 Try.f21 rfl rfl rfl rfl rfl rfl rfl ⟨rfl, rfl, rfl, rfl, rfl⟩ rfl rfl rfl rfl rfl (by kernel_rfl) Try.func21 modsPrime_closed
    (of_decide_eq_true (by kernel_rfl)) (by unfold Func.isWrapper; first | (rw [if_pos (by decide +kernel)]; kernel_rfl) | (rw [if_neg (by decide +kernel)]; exact ⟨rfl, rfl⟩))
    (fun os started H enc _ => modsPrime_lifted os started H enc)

end Go.Proofs.Ytjkelipglcnpmaa
