/- ShasOf: the row, proved: the frame is law_lifted_any (Fv), the walk is f4.ok, the plain law is f4.holds; with no condition but those that the statement names. -/
import Derived.Test.YtlncodfolaoilaaQ2
import Derived.Test.YtlncodfolaoilaaQ9
import Derived.Test.YtlncodfolaoilaaRows
namespace Go.Proofs.Ytlncodfolaoilaa
open Go.VM
set_option maxRecDepth 100000 in
set_option maxHeartbeats 1000000 in
theorem shasOf_lifted (os : Os) (started : os.Started) (H : Type) (enc : TypeId × Value → H) :
    ReturnsInHanded {} Try.checked os 4 .any (Rows.shasOfSpec.pre6 enc Try.prog Try.f4 Rows.shasOfRow.domain false) (Rows.shasOfSpec.post enc Try.prog Try.f4 false true false false) := by
  refine law_lifted_any (C := Try.checked) (by kernel_rfl) started (by kernel_rfl) Try.func4
    (ChangeSpec.witness6 (enc := enc) (C := Try.checked) false ⟨#[], #[.slice none 0 0], []⟩ 8 (by kernel_rfl) (by kernel_rfl) (by kernel_rfl) (by kernel_rfl)) (by kernel_rfl) (by kernel_rfl) (by kernel_rfl) ?_ rfl rfl (tb := 4) Try.underlying4 ?_ ?_
  · have h : (Try.f4.params.toList.all fun t => decide (t < Try.prog.types.size)) = true := by kernel_rfl
    exact fun t ht => of_decide_eq_true (List.all_eq_true.1 h t ht)
  · intro ds hds
    obtain ⟨d0, rfl⟩ := list1 (l := ds) hds
    rfl
  · intro W base args ds ps hA hok
    obtain ⟨v0, d0, rfl, rfl, h0⟩ := Go.ChangeShapes.trodAll_one (t := 22) hA
    obtain ⟨l0, b0, g0, rfl, wf0, len0, hp0⟩ := slice_view Try.underlying22 Try.underlying5 (by kernel_rfl) h0 (hok 0 22 v0 rfl rfl)
    have hin : ∀ F, genE 2 f4.inA F (dv1 f4.o0) (VV × ME) [.vw true 0 0 l0.length 1] [(0, ([.ints .u8 l0.length l0], 0, .ro))] 2 (fun v me => some (v, me)) = (F (l0.length, l0.length, l0)).bind fun y => some (.bool y.1, { rd := [0] }) := fun _ => by kernel_rfl
    have h := law_calls_view1 (k := .u8) (l := l0) (b := b0) (g := g0) (W := W) (vs := [.vw true 0 0 l0.length 1]) (show EntryOK Try.prog 4 (genE 2 f4.inA (f4.F 100000) (dv1 f4.o0)) from f4.ok 100000) ((hin _).trans (by rw [f4.holds l0 (fun z hz => Go.VM.wf_u8 (wf0 z hz))]; rfl))
      (by simp [VV.okL, VV.ids, VV.idss, VV.mem, VV.mems, VV.sto]) hp0 (fun x hx => by simp [globs] at hx)
    exact h
set_option maxRecDepth 1000000 in
theorem shasOf_holds : Rows.ShasOfSaid :=
  OpenClaim.holds_of_wide 4 Try.f4 rfl rfl rfl rfl rfl rfl rfl ⟨rfl, rfl, rfl, rfl, rfl⟩ rfl rfl rfl rfl rfl (by kernel_rfl) Try.func4 (by kernel_rfl)
    (of_decide_eq_true (by kernel_rfl)) (by unfold Func.isWrapper; first | (rw [if_pos (by decide +kernel)]; kernel_rfl) | (rw [if_neg (by decide +kernel)]; exact ⟨rfl, rfl⟩))
    (fun os started H enc _ => shasOf_lifted os started H enc)
end Go.Proofs.Ytlncodfolaoilaa
