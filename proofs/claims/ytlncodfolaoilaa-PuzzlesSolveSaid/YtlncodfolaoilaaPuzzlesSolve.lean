/- PuzzlesSolve: the row, proved: the frame is law_lifted_any (Fv), the walk is f9.ok, the plain law is f9.holds; with no condition but those that the statement names. -/
import Derived.Test.YtlncodfolaoilaaQ2
import Derived.Test.YtlncodfolaoilaaQ11
import Derived.Test.YtlncodfolaoilaaRows
namespace Go.Proofs.Ytlncodfolaoilaa
open Go.VM
set_option maxRecDepth 100000 in
set_option maxHeartbeats 1000000 in
theorem puzzlesSolve_lifted (os : Os) (started : os.Started) (H : Type) (enc : TypeId × Value → H) :
    ReturnsInHanded {} Try.checked os 9 .any (Rows.puzzlesSolveSpec.pre6 enc Try.prog Try.f9 Rows.puzzlesSolveRow.domain false) (Rows.puzzlesSolveSpec.post enc Try.prog Try.f9 false true false false) := by
  refine law_lifted_any (C := Try.checked) (by kernel_rfl) started (by kernel_rfl) Try.func9
    (ChangeSpec.witness6 (enc := enc) (C := Try.checked) false ⟨#[], #[.agg #[.int .u8 0, .int .u8 0, .int .u8 0, .int .u8 0, .int .u8 0, .int .u8 0, .int .u8 0, .int .u8 0, .int .u8 0, .int .u8 0, .int .u8 0, .int .u8 0, .int .u8 0, .int .u8 0, .int .u8 0, .int .u8 0, .int .u8 0, .int .u8 0, .int .u8 0, .int .u8 0, .int .u8 0, .int .u8 0, .int .u8 0, .int .u8 0, .int .u8 0, .int .u8 0, .int .u8 0, .int .u8 0, .int .u8 0, .int .u8 0, .int .u8 0, .int .u8 0, .int .u64 0, .int .u8 0, .int .u8 0, .int .u8 0, .int .u8 0, .int .u8 0, .int .u8 0, .int .u8 0, .int .u8 0, .int .u8 0, .int .u8 0, .int .u8 0, .int .u8 0, .int .u8 0, .int .u8 0, .int .u8 0, .int .u8 0, .int .u8 0, .int .u8 0, .int .u8 0, .int .u8 0, .int .u8 0, .int .u8 0, .int .u8 0, .int .u8 0, .int .u8 0, .int .u8 0, .int .u8 0, .int .u8 0, .int .u8 0, .int .u8 0, .int .u8 0, .int .u8 0, .int .u8 0, .int .u32 0]], []⟩ 8 (by kernel_rfl) (by kernel_rfl) (by kernel_rfl) (by kernel_rfl)) (by kernel_rfl) (by kernel_rfl) (by kernel_rfl) ?_ rfl rfl (tb := 4) Try.underlying4 ?_ ?_
  · have h : (Try.f9.params.toList.all fun t => decide (t < Try.prog.types.size)) = true := by kernel_rfl
    exact fun t ht => of_decide_eq_true (List.all_eq_true.1 h t ht)
  · intro ds hds
    obtain ⟨d0, rfl⟩ := list1 (l := ds) hds
    rfl
  · intro W base args ds ps hA hok
    obtain ⟨v0, d0, rfl, rfl, h0⟩ := Go.ChangeShapes.trodAll_one (t := 51) hA
    obtain ⟨k0, a0, b0, l0, m0, c0, hk0, ha0, hb0, hl0, hm0, hc0, rfl⟩ := reads_asked Try.underlying35 Try.underlying5 ⟨by kernel_rfl, by kernel_rfl⟩ Try.underlying28 (by kernel_rfl) Try.underlying47 (by kernel_rfl) Try.underlying49 (by kernel_rfl) Try.underlying51 ⟨rfl, rfl⟩ ⟨rfl, rfl⟩ ⟨rfl, rfl⟩ ⟨rfl, rfl⟩ ⟨rfl, rfl⟩ ⟨rfl, rfl⟩ (by kernel_rfl) h0 (hok 0 51 v0 rfl rfl)
    exact law_calls (f9.ok 100000) (vs := [.agg [.ints .u8 32 k0, .int .u64 a0, .int .u8 b0, .ints .u8 16 l0, .ints .u8 16 m0, .int .u32 c0]]) (x := (k0, a0, b0, l0, m0, c0)) (f9.holds k0 a0 b0 l0 m0 c0 hk0 (Go.VM.wf_u64 ha0) hb0 hl0 hm0 hc0) (fun _ => by kernel_rfl) rfl W (fun x hx => by simp [globs] at hx)
set_option maxRecDepth 1000000 in
theorem puzzlesSolve_holds : Rows.PuzzlesSolveSaid :=
  OpenClaim.holds_of_wide 9 Try.f9 rfl rfl rfl rfl rfl rfl rfl ⟨rfl, rfl, rfl, rfl, rfl⟩ rfl rfl rfl rfl rfl (by kernel_rfl) Try.func9 (by kernel_rfl)
    (of_decide_eq_true (by kernel_rfl)) (by unfold Func.isWrapper; first | (rw [if_pos (by decide +kernel)]; kernel_rfl) | (rw [if_neg (by decide +kernel)]; exact ⟨rfl, rfl⟩))
    (fun os started H enc _ => puzzlesSolve_lifted os started H enc)
end Go.Proofs.Ytlncodfolaoilaa
