/- DrawsNone: the row, proved: the frame is law_lifted_any (Fv), the walk is f12.ok, the plain law is f12.holds; with no condition but those that the statement names. -/
import Derived.Test.YtlncodfolaoilaaQ2
import Derived.Test.YtlncodfolaoilaaQ6
import Derived.Test.YtlncodfolaoilaaRows
namespace Go.Proofs.Ytlncodfolaoilaa
open Go.VM
set_option maxRecDepth 100000 in
set_option maxHeartbeats 1000000 in
theorem drawsNone_lifted (os : Os) (started : os.Started) (H : Type) (enc : TypeId × Value → H) :
    ReturnsInHanded {} Try.checked os 12 .any (Rows.drawsNoneSpec.pre6 enc Try.prog Try.f12 Rows.drawsNoneRow.domain false) (Rows.drawsNoneSpec.post enc Try.prog Try.f12 false true false false) := by
  refine law_lifted_any (C := Try.checked) (by kernel_rfl) started (by kernel_rfl) Try.func12
    (ChangeSpec.witness6 (enc := enc) (C := Try.checked) false ⟨#[], #[.agg #[.int .u64 0, .int .u64 0, .int .u64 0, .int .u64 0, .int .u64 0, .int .u64 0, .int .u64 0, .int .u64 0, .int .u64 0, .int .u64 0, .int .u64 0, .int .u64 0]], []⟩ 8 (by kernel_rfl) (by kernel_rfl) (by kernel_rfl) (by kernel_rfl)) (by kernel_rfl) (by kernel_rfl) (by kernel_rfl) ?_ rfl rfl (tb := 4) Try.underlying4 ?_ ?_
  · have h : (Try.f12.params.toList.all fun t => decide (t < Try.prog.types.size)) = true := by kernel_rfl
    exact fun t ht => of_decide_eq_true (List.all_eq_true.1 h t ht)
  · intro ds hds
    obtain ⟨d0, rfl⟩ := list1 (l := ds) hds
    rfl
  · intro W base args ds ps hA hok
    obtain ⟨v0, d0, rfl, rfl, h0⟩ := Go.ChangeShapes.trodAll_one (t := 69) hA
    obtain ⟨p0, q0, g0, hp0, hq0, hg0, rfl⟩ := reads_group' Try.underlying67 Try.underlying28 ⟨by kernel_rfl, by kernel_rfl⟩ Try.underlying69 ⟨rfl, rfl⟩ ⟨rfl, rfl⟩ ⟨rfl, rfl⟩ (by kernel_rfl) h0 (hok 0 69 v0 rfl rfl)
    exact law_calls (f12.ok 100000) (vs := [.agg [.ints .u64 4 (num p0), .ints .u64 4 (num q0), .ints .u64 4 (num g0)]]) (x := (num p0, num q0, num g0)) (f12.holds (num p0) (num q0) (num g0)) (fun _ => by kernel_rfl) rfl W (fun x hx => by simp [globs] at hx)
set_option maxRecDepth 1000000 in
theorem drawsNone_holds : Rows.DrawsNoneSaid :=
  OpenClaim.holds_of_wide 12 Try.f12 rfl rfl rfl rfl rfl rfl rfl ⟨rfl, rfl, rfl, rfl, rfl⟩ rfl rfl rfl rfl rfl (by kernel_rfl) Try.func12 (by kernel_rfl)
    (of_decide_eq_true (by kernel_rfl)) (by unfold Func.isWrapper; first | (rw [if_pos (by decide +kernel)]; kernel_rfl) | (rw [if_neg (by decide +kernel)]; exact ⟨rfl, rfl⟩))
    (fun os started H enc _ => drawsNone_lifted os started H enc)
end Go.Proofs.Ytlncodfolaoilaa
