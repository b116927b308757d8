/- PuzzlesBits: the row, proved: the frame is law_lifted_any (Fv), the walk is f11.ok, the plain law is f11.holds; with no condition but those that the statement names. -/
import Derived.Test.YtlncodfolaoilaaQ2
import Derived.Test.YtlncodfolaoilaaQ11
import Derived.Test.YtlncodfolaoilaaRows
namespace Go.Proofs.Ytlncodfolaoilaa
open Go.VM
set_option maxRecDepth 100000 in
set_option maxHeartbeats 1000000 in
theorem puzzlesBits_lifted (os : Os) (started : os.Started) (H : Type) (enc : TypeId × Value → H) :
    ReturnsInHanded {} Try.checked os 11 .any (Rows.puzzlesBitsSpec.pre6 enc Try.prog Try.f11 Rows.puzzlesBitsRow.domain false) (Rows.puzzlesBitsSpec.post enc Try.prog Try.f11 false true false false) := by
  refine law_lifted_any (C := Try.checked) (by kernel_rfl) started (by kernel_rfl) Try.func11
    (ChangeSpec.witness6 (enc := enc) (C := Try.checked) false ⟨#[], #[.int .u32 0, .int .u16 0], []⟩ 8 (by kernel_rfl) (by kernel_rfl) (by kernel_rfl) (by kernel_rfl)) (by kernel_rfl) (by kernel_rfl) (by kernel_rfl) ?_ rfl rfl (tb := 4) Try.underlying4 ?_ ?_
  · have h : (Try.f11.params.toList.all fun t => decide (t < Try.prog.types.size)) = true := by kernel_rfl
    exact fun t ht => of_decide_eq_true (List.all_eq_true.1 h t ht)
  · intro ds hds
    obtain ⟨d0, d1, rfl⟩ := list2 (l := ds) hds
    rfl
  · intro W base args ds ps hA hok
    obtain ⟨v0, v1, d0, d1, p0, p1, rfl, rfl, rfl, h0, h1⟩ := Go.ChangeShapes.trodAll_two (t := 48) (t' := 44) hA
    obtain ⟨z0, wf0, rfl⟩ := int_view Try.underlying48 h0 (hok 0 48 v0 rfl rfl)
    obtain ⟨z1, wf1, rfl⟩ := int_view Try.underlying44 h1 (hok 1 44 v1 rfl rfl)
    exact law_calls (f11.ok 100000) (vs := [.int .u32 z0, .int .u16 z1]) (x := (z0, z1)) (f11.holds z0 (Go.VM.wf_u32 wf0) z1 (Go.VM.wf_u16 wf1)) (fun _ => by kernel_rfl) rfl W (fun x hx => by simp [globs] at hx)
set_option maxRecDepth 1000000 in
theorem puzzlesBits_holds : Rows.PuzzlesBitsSaid :=
  OpenClaim.holds_of_wide 11 Try.f11 rfl rfl rfl rfl rfl rfl rfl ⟨rfl, rfl, rfl, rfl, rfl⟩ rfl rfl rfl rfl rfl (by kernel_rfl) Try.func11 (by kernel_rfl)
    (of_decide_eq_true (by kernel_rfl)) (by unfold Func.isWrapper; first | (rw [if_pos (by decide +kernel)]; kernel_rfl) | (rw [if_neg (by decide +kernel)]; exact ⟨rfl, rfl⟩))
    (fun os started H enc _ => puzzlesBits_lifted os started H enc)
end Go.Proofs.Ytlncodfolaoilaa
