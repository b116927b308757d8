/- DrawsAlike: the row, proved: the frame is law_lifted_any (Fv), the walk is f13.ok, the plain law is f13.holds; with no condition but those that the statement names. -/
import Derived.Test.YtlncodfolaoilaaQ2
import Derived.Test.YtlncodfolaoilaaQ7
import Derived.Test.YtlncodfolaoilaaRows
namespace Go.Proofs.Ytlncodfolaoilaa
open Go.VM
set_option maxRecDepth 100000 in
set_option maxHeartbeats 1000000 in
theorem drawsAlike_lifted (os : Os) (started : os.Started) (H : Type) (enc : TypeId × Value → H) :
    ReturnsInHanded {} Try.checked os 13 .any (Rows.drawsAlikeSpec.pre6 enc Try.prog Try.f13 Rows.drawsAlikeRow.domain false) (Rows.drawsAlikeSpec.post enc Try.prog Try.f13 false true false false) := by
  refine law_lifted_any (C := Try.checked) (by kernel_rfl) started (by kernel_rfl) Try.func13
    (ChangeSpec.witness6 (enc := enc) (C := Try.checked) false ⟨#[], #[.agg #[.int .u8 0, .int .u8 0, .int .u8 0, .int .u8 0, .int .u8 0, .int .u8 0, .int .u8 0, .int .u8 0, .int .u8 0, .int .u8 0, .int .u8 0, .int .u8 0, .int .u8 0, .int .u8 0, .int .u8 0, .int .u8 0, .int .u8 0, .int .u8 0, .int .u8 0, .int .u8 0, .int .u8 0, .int .u8 0, .int .u8 0, .int .u8 0, .int .u8 0, .int .u8 0, .int .u8 0, .int .u8 0, .int .u8 0, .int .u8 0, .int .u8 0, .int .u8 0], .agg #[.int .u8 0, .int .u8 0, .int .u8 0, .int .u8 0, .int .u8 0, .int .u8 0, .int .u8 0, .int .u8 0, .int .u8 0, .int .u8 0, .int .u8 0, .int .u8 0, .int .u8 0, .int .u8 0, .int .u8 0, .int .u8 0, .int .u8 0, .int .u8 0, .int .u8 0, .int .u8 0, .int .u8 0, .int .u8 0, .int .u8 0, .int .u8 0, .int .u8 0, .int .u8 0, .int .u8 0, .int .u8 0, .int .u8 0, .int .u8 0, .int .u8 0, .int .u8 0], .slice none 0 0], []⟩ 8 (by kernel_rfl) (by kernel_rfl) (by kernel_rfl) (by kernel_rfl)) (by kernel_rfl) (by kernel_rfl) (by kernel_rfl) ?_ rfl rfl (tb := 4) Try.underlying4 ?_ ?_
  · have h : (Try.f13.params.toList.all fun t => decide (t < Try.prog.types.size)) = true := by kernel_rfl
    exact fun t ht => of_decide_eq_true (List.all_eq_true.1 h t ht)
  · intro ds hds
    obtain ⟨d0, d1, d2, rfl⟩ := list3 (l := ds) hds
    rfl
  · intro W base args ds ps hA hok
    obtain ⟨v0, v1, v2, d0, d1, d2, p0, p1, p2, rfl, rfl, rfl, h0, h1, h2⟩ := Go.ChangeShapes.trodAll_three (t := 35) (t' := 35) (t'' := 22) hA
    obtain ⟨l0, hl0, rfl⟩ := octets_view Try.underlying35 Try.underlying5 ⟨by kernel_rfl, by kernel_rfl⟩ h0 (hok 0 35 v0 rfl rfl)
    obtain ⟨l1, hl1, rfl⟩ := octets_view Try.underlying35 Try.underlying5 ⟨by kernel_rfl, by kernel_rfl⟩ h1 (hok 1 35 v1 rfl rfl)
    obtain ⟨l2, b2, g2, rfl, wf2, len2, hp2⟩ := slice_view Try.underlying22 Try.underlying5 (by kernel_rfl) h2 (hok 2 22 v2 rfl rfl)
    have hin : ∀ F, genE 2 f13.inA F (dv1 f13.o0) (VV × ME) [.agg [.ints .u8 32 l0], .agg [.ints .u8 32 l1], .vw true 0 0 l2.length 1] [(0, ([.ints .u8 l2.length l2], 0, .ro))] 2 (fun v me => some (v, me)) = (F (l0, l1, l2.length, l2.length, l2)).bind fun y => some (.bool y.1, { rd := [0] }) := fun _ => by kernel_rfl
    have h := law_calls_view1 (k := .u8) (l := l2) (b := b2) (g := g2) (W := W) (vs := [.agg [.ints .u8 32 l0], .agg [.ints .u8 32 l1], .vw true 0 0 l2.length 1]) (show EntryOK Try.prog 13 (genE 2 f13.inA (f13.F 100000) (dv1 f13.o0)) from f13.ok 100000) ((hin _).trans (by rw [f13.holds l0 hl0 l1 hl1 l2 (fun z hz => Go.VM.wf_u8 (wf2 z hz))]; rfl))
      (by simp [VV.okL, VV.ids, VV.idss, VV.mem, VV.mems, VV.sto]) hp2 (fun x hx => by simp [globs] at hx)
    exact h
set_option maxRecDepth 1000000 in
theorem drawsAlike_holds : Rows.DrawsAlikeSaid :=
  OpenClaim.holds_of_wide 13 Try.f13 rfl rfl rfl rfl rfl rfl rfl ⟨rfl, rfl, rfl, rfl, rfl⟩ rfl rfl rfl rfl rfl (by kernel_rfl) Try.func13 (by kernel_rfl)
    (of_decide_eq_true (by kernel_rfl)) (by unfold Func.isWrapper; first | (rw [if_pos (by decide +kernel)]; kernel_rfl) | (rw [if_neg (by decide +kernel)]; exact ⟨rfl, rfl⟩))
    (fun os started H enc _ => drawsAlike_lifted os started H enc)
end Go.Proofs.Ytlncodfolaoilaa
