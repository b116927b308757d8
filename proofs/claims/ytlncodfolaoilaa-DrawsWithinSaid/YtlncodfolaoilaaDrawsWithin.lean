/- DrawsWithin: the row, proved: the frame is law_lifted_any (Fv), the walk is f14.ok, the plain law is f14.holds; with no condition but those that the statement names. -/
import Derived.Test.YtlncodfolaoilaaQ2
import Derived.Test.YtlncodfolaoilaaQ8
import Derived.Test.YtlncodfolaoilaaRows
namespace Go.Proofs.Ytlncodfolaoilaa
open Go.VM
set_option maxRecDepth 100000 in
set_option maxHeartbeats 1000000 in
theorem drawsWithin_lifted (os : Os) (started : os.Started) (H : Type) (enc : TypeId × Value → H) :
    ReturnsInHanded {} Try.checked os 14 .any (Rows.drawsWithinSpec.pre6 enc Try.prog Try.f14 Rows.drawsWithinRow.domain false) (Rows.drawsWithinSpec.post enc Try.prog Try.f14 false true false false) := by
  refine law_lifted_any (C := Try.checked) (by kernel_rfl) started (by kernel_rfl) Try.func14
    (ChangeSpec.witness6 (enc := enc) (C := Try.checked) false ⟨#[], #[.agg #[.int .u8 0, .int .u8 0, .int .u8 0, .int .u8 0, .int .u8 0, .int .u8 0, .int .u8 0, .int .u8 0, .int .u8 0, .int .u8 0, .int .u8 0, .int .u8 0, .int .u8 0, .int .u8 0, .int .u8 0, .int .u8 0, .int .u8 0, .int .u8 0, .int .u8 0, .int .u8 0, .int .u8 0, .int .u8 0, .int .u8 0, .int .u8 0, .int .u8 0, .int .u8 0, .int .u8 0, .int .u8 0, .int .u8 0, .int .u8 0, .int .u8 0, .int .u8 0], .agg #[.int .u64 0, .int .u64 0, .int .u64 0, .int .u64 0, .int .u64 0, .int .u64 0, .int .u64 0, .int .u64 0, .int .u64 0, .int .u64 0, .int .u64 0, .int .u64 0], .int .u8 0], []⟩ 8 (by kernel_rfl) (by kernel_rfl) (by kernel_rfl) (by kernel_rfl)) (by kernel_rfl) (by kernel_rfl) (by kernel_rfl) ?_ rfl rfl (tb := 4) Try.underlying4 ?_ ?_
  · have h : (Try.f14.params.toList.all fun t => decide (t < Try.prog.types.size)) = true := by kernel_rfl
    exact fun t ht => of_decide_eq_true (List.all_eq_true.1 h t ht)
  · intro ds hds
    obtain ⟨d0, d1, d2, rfl⟩ := list3 (l := ds) hds
    rfl
  · intro W base args ds ps hA hok
    obtain ⟨v0, v1, v2, d0, d1, d2, p0, p1, p2, rfl, rfl, rfl, h0, h1, h2⟩ := Go.ChangeShapes.trodAll_three (t := 35) (t' := 69) (t'' := 5) hA
    obtain ⟨l0, hl0, rfl⟩ := octets_view Try.underlying35 Try.underlying5 ⟨by kernel_rfl, by kernel_rfl⟩ h0 (hok 0 35 v0 rfl rfl)
    obtain ⟨p1, q1, g1, hp1, hq1, hg1, rfl⟩ := reads_group' Try.underlying67 Try.underlying28 ⟨by kernel_rfl, by kernel_rfl⟩ Try.underlying69 ⟨rfl, rfl⟩ ⟨rfl, rfl⟩ ⟨rfl, rfl⟩ (by kernel_rfl) h1 (hok 1 69 v1 rfl rfl)
    obtain ⟨z2, wf2, rfl⟩ := int_view Try.underlying5 h2 (hok 2 5 v2 rfl rfl)
    exact law_calls (f14.ok 100000) (vs := [.agg [.ints .u8 32 l0], .agg [.ints .u64 4 (num p1), .ints .u64 4 (num q1), .ints .u64 4 (num g1)], .int .u8 z2]) (x := (l0, num p1, num q1, num g1, z2)) (f14.holds l0 hl0 p1 q1 g1 hp1 hq1 hg1 z2 (Go.VM.wf_u8 wf2)) (fun _ => by kernel_rfl) rfl W (fun x hx => by simp [globs] at hx)
set_option maxRecDepth 1000000 in
theorem drawsWithin_holds : Rows.DrawsWithinSaid :=
  OpenClaim.holds_of_wide 14 Try.f14 rfl rfl rfl rfl rfl rfl rfl ⟨rfl, rfl, rfl, rfl, rfl⟩ rfl rfl rfl rfl rfl (by kernel_rfl) Try.func14 (by kernel_rfl)
    (of_decide_eq_true (by kernel_rfl)) (by unfold Func.isWrapper; first | (rw [if_pos (by decide +kernel)]; kernel_rfl) | (rw [if_neg (by decide +kernel)]; exact ⟨rfl, rfl⟩))
    (fun os started H enc _ => drawsWithin_lifted os started H enc)
end Go.Proofs.Ytlncodfolaoilaa
