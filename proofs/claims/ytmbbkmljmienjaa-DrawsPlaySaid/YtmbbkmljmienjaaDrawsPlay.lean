/- DrawsPlay: the row, proved: the frame is law_lifted_any (Fv), the walk is f9.ok, the plain law is f9.holds; with no condition but those that the statement names. -/
import Derived.Test.YtmbbkmljmienjaaQ2
import Derived.Test.YtmbbkmljmienjaaQ9
import Derived.Test.YtmbbkmljmienjaaRows
namespace Go.Proofs.Ytmbbkmljmienjaa
open Go.VM
set_option maxRecDepth 100000 in
set_option maxHeartbeats 1000000 in
theorem drawsPlay_lifted (os : Os) (started : os.Started) (H : Type) (enc : TypeId × Value → H) :
    ReturnsInHanded {} Try.checked os 9 .any (Rows.drawsPlaySpec.pre6 enc Try.prog Try.f9 Rows.drawsPlayRow.domain false) (Rows.drawsPlaySpec.post enc Try.prog Try.f9 false true false false) := by
  refine law_lifted_any (C := Try.checked) (by kernel_rfl) started (by kernel_rfl) Try.func9
    (ChangeSpec.witness6 (enc := enc) (C := Try.checked) false ⟨#[], #[.agg #[.int .u8 0, .int .u8 0, .int .u8 0, .int .u8 0, .int .u8 0, .int .u8 0, .int .u8 0, .int .u8 0, .int .u8 0, .int .u8 0, .int .u8 0, .int .u8 0, .int .u8 0, .int .u8 0, .int .u8 0, .int .u8 0, .int .u8 0, .int .u8 0, .int .u8 0, .int .u8 0, .int .u8 0, .int .u8 0, .int .u8 0, .int .u8 0, .int .u8 0, .int .u8 0, .int .u8 0, .int .u8 0, .int .u8 0, .int .u8 0, .int .u8 0, .int .u8 0], .agg #[.int .u64 0, .int .u64 0, .int .u64 0, .int .u64 0, .int .u64 0, .int .u64 0, .int .u64 0, .int .u64 0, .int .u64 0, .int .u64 0, .int .u64 0, .int .u64 0], .slice none 0 0], []⟩ 8 (by kernel_rfl) (by kernel_rfl) (by kernel_rfl) (by kernel_rfl)) (by kernel_rfl) (by kernel_rfl) (by kernel_rfl) ?_ rfl rfl (tb := 4) Try.underlying4 ?_ ?_
  · have h : (Try.f9.params.toList.all fun t => decide (t < Try.prog.types.size)) = true := by kernel_rfl
    exact fun t ht => of_decide_eq_true (List.all_eq_true.1 h t ht)
  · intro ds hds
    obtain ⟨d0, d1, d2, rfl⟩ := list3 (l := ds) hds
    rfl
  · intro W base args ds ps hA hok
    obtain ⟨v0, v1, v2, d0, d1, d2, p0, p1, p2, rfl, rfl, rfl, h0, h1, h2⟩ := Go.ChangeShapes.trodAll_three (t := 29) (t' := 63) (t'' := 64) hA
    obtain ⟨l0, hl0, rfl⟩ := octets_view Try.underlying29 Try.underlying5 ⟨by kernel_rfl, by kernel_rfl⟩ h0 (hok 0 29 v0 rfl rfl)
    obtain ⟨p1, q1, g1, hp1, hq1, hg1, rfl⟩ := reads_group' Try.underlying39 Try.underlying37 ⟨by kernel_rfl, by kernel_rfl⟩ Try.underlying63 ⟨rfl, rfl⟩ ⟨rfl, rfl⟩ ⟨rfl, rfl⟩ (by kernel_rfl) h1 (hok 1 63 v1 rfl rfl)
    obtain ⟨l2, b2, g2, rfl, len2, hp2⟩ := truth_view Try.underlying64 Try.underlying4 (by kernel_rfl) h2 (hok 2 64 v2 rfl rfl)
    have hin : ∀ F, genE 2 f9.inA F (dv1 f9.o0) (VV × ME) [.agg [.ints .u8 32 l0], .agg [.ints .u64 4 (num p1), .ints .u64 4 (num q1), .ints .u64 4 (num g1)], .vw true 0 0 l2.length 1] [(0, ([], 0, .rb l2))] 2 (fun v me => some (v, me)) = (F (l0, num p1, num q1, num g1, l2.length, l2)).bind fun y => some (.bool y.1, { rd := [0] }) := fun _ => by kernel_rfl
    have h := law_calls_truths (l := l2) (b := b2) (g := g2) (W := W) (vs := [.agg [.ints .u8 32 l0], .agg [.ints .u64 4 (num p1), .ints .u64 4 (num q1), .ints .u64 4 (num g1)], .vw true 0 0 l2.length 1]) (show EntryOK Try.prog 9 (genE 2 f9.inA (f9.F 100000) (dv1 f9.o0)) from f9.ok 100000) ((hin _).trans (by rw [f9.holds l0 hl0 p1 q1 g1 hp1 hq1 hg1 l2]; rfl))
      (by simp [VV.okL, VV.ids, VV.idss, VV.mem, VV.mems, VV.sto]) hp2 (fun x hx => by simp [globs] at hx)
    exact h
set_option maxRecDepth 1000000 in
theorem drawsPlay_holds : Rows.DrawsPlaySaid :=
  OpenClaim.holds_of_wide 9 Try.f9 rfl rfl rfl rfl rfl rfl rfl ⟨rfl, rfl, rfl, rfl, rfl⟩ rfl rfl rfl rfl rfl (by kernel_rfl) Try.func9 (by kernel_rfl)
    (of_decide_eq_true (by kernel_rfl)) (by unfold Func.isWrapper; first | (rw [if_pos (by decide +kernel)]; kernel_rfl) | (rw [if_neg (by decide +kernel)]; exact ⟨rfl, rfl⟩))
    (fun os started H enc _ => drawsPlay_lifted os started H enc)
end Go.Proofs.Ytmbbkmljmienjaa
