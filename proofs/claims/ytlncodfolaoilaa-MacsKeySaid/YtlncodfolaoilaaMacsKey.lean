/- MacsKey: the row, proved: the frame is law_lifted_any (Fv), the walk is f5.ok, the plain law is f5.holds; with no condition but those that the statement names. -/
import Derived.Test.YtlncodfolaoilaaQ2
import Derived.Test.YtlncodfolaoilaaQ8
import Derived.Test.YtlncodfolaoilaaRows
namespace Go.Proofs.Ytlncodfolaoilaa
open Go.VM
set_option maxRecDepth 100000 in
set_option maxHeartbeats 1000000 in
theorem macsKey_lifted (os : Os) (started : os.Started) (H : Type) (enc : TypeId × Value → H) :
    ReturnsInHanded {} Try.checked os 5 .any (Rows.macsKeySpec.pre6 enc Try.prog Try.f5 Rows.macsKeyRow.domain false) (Rows.macsKeySpec.post enc Try.prog Try.f5 false true false false) := by
  refine law_lifted_any (C := Try.checked) (by kernel_rfl) started (by kernel_rfl) Try.func5
    (ChangeSpec.witness6 (enc := enc) (C := Try.checked) false ⟨#[], #[.slice none 0 0, .slice none 0 0, .int .u8 0], []⟩ 8 (by kernel_rfl) (by kernel_rfl) (by kernel_rfl) (by kernel_rfl)) (by kernel_rfl) (by kernel_rfl) (by kernel_rfl) ?_ rfl rfl (tb := 4) Try.underlying4 ?_ ?_
  · have h : (Try.f5.params.toList.all fun t => decide (t < Try.prog.types.size)) = true := by kernel_rfl
    exact fun t ht => of_decide_eq_true (List.all_eq_true.1 h t ht)
  · intro ds hds
    obtain ⟨d0, d1, d2, rfl⟩ := list3 (l := ds) hds
    rfl
  · intro W base args ds ps hA hok
    obtain ⟨v0, v1, v2, d0, d1, d2, p0, p1, p2, rfl, rfl, rfl, h0, h1, h2⟩ := Go.ChangeShapes.trodAll_three (t := 22) (t' := 22) (t'' := 5) hA
    obtain ⟨l0, b0, g0, rfl, wf0, len0, hp0⟩ := slice_view Try.underlying22 Try.underlying5 (by kernel_rfl) h0 (hok 0 22 v0 rfl rfl)
    obtain ⟨l1, b1, g1, rfl, wf1, len1, hp1⟩ := slice_view Try.underlying22 Try.underlying5 (by kernel_rfl) h1 (hok 1 22 v1 rfl rfl)
    obtain ⟨z2, wf2, rfl⟩ := int_view Try.underlying5 h2 (hok 2 5 v2 rfl rfl)
    have hin : ∀ F, genE 4 f5.inA F (dv1 f5.o0) (VV × ME) [.vw true 0 0 l0.length 1, .vw true 2 0 l1.length 3, .int .u8 z2] [(0, ([.ints .u8 l0.length l0], 0, .ro)), (2, ([.ints .u8 l1.length l1], 0, .ro))] 4 (fun v me => some (v, me)) = (F (l0.length, l1.length, z2, l0.length, l0, l1.length, l1)).bind fun y => some (.bool y.1, { rd := [0, 2] }) := fun _ => by kernel_rfl
    have h := law_calls_view2 (k := .u8) (l := l0) (b := b0) (g := g0) (k' := .u8) (l' := l1) (b' := b1) (g' := g1) (W := W) (vs := [.vw true 0 0 l0.length 1, .vw true 2 0 l1.length 3, .int .u8 z2]) (show EntryOK Try.prog 5 (genE 4 f5.inA (f5.F 100000) (dv1 f5.o0)) from f5.ok 100000) ((hin _).trans (by rw [f5.holds l0 (fun z hz => Go.VM.wf_u8 (wf0 z hz)) l1 (fun z hz => Go.VM.wf_u8 (wf1 z hz)) z2 (Go.VM.wf_u8 wf2)]; rfl))
      (by simp [VV.okL, VV.ids, VV.idss, VV.mem, VV.mems, VV.sto]) hp0 hp1 (fun x hx => by simp [globs] at hx)
    exact h
set_option maxRecDepth 1000000 in
theorem macsKey_holds : Rows.MacsKeySaid :=
  OpenClaim.holds_of_wide 5 Try.f5 rfl rfl rfl rfl rfl rfl rfl ⟨rfl, rfl, rfl, rfl, rfl⟩ rfl rfl rfl rfl rfl (by kernel_rfl) Try.func5 (by kernel_rfl)
    (of_decide_eq_true (by kernel_rfl)) (by unfold Func.isWrapper; first | (rw [if_pos (by decide +kernel)]; kernel_rfl) | (rw [if_neg (by decide +kernel)]; exact ⟨rfl, rfl⟩))
    (fun os started H enc _ => macsKey_lifted os started H enc)
end Go.Proofs.Ytlncodfolaoilaa
