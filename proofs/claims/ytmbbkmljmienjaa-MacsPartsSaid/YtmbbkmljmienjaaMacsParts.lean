/- MacsParts: the row, proved: the frame is law_lifted_sized (Fb), the walk is f4.ok, the plain law is f4.holds; with no condition but those that the statement names. -/
import Derived.Test.YtmbbkmljmienjaaQ2
import Derived.Test.YtmbbkmljmienjaaQ7
import Derived.Test.YtmbbkmljmienjaaRows
namespace Go.Proofs.Ytmbbkmljmienjaa
open Go.VM
set_option maxRecDepth 100000 in
set_option maxHeartbeats 1000000 in
theorem macsParts_lifted (os : Os) (started : os.Started) (H : Type) (enc : TypeId × Value → H) :
    ReturnsInHanded {} Try.checked os 4 .any (Rows.macsPartsSpec.pre6 enc Try.prog Try.f4 Rows.macsPartsRow.domain false) (Rows.macsPartsSpec.post enc Try.prog Try.f4 false true false false) := by
  refine law_lifted_sized (C := Try.checked) (by kernel_rfl) started (by kernel_rfl) Try.func4
    (ChangeSpec.witness6 (enc := enc) (C := Try.checked) false ⟨#[], #[.slice none 0 0, .slice none 0 0, .slice none 0 0], []⟩ 8 (by kernel_rfl) (by kernel_rfl) (by kernel_rfl) (by kernel_rfl)) (by kernel_rfl) (by kernel_rfl) (by kernel_rfl) ?_ rfl rfl (tb := 4) Try.underlying4 ?_ ?_
  · have h : (Try.f4.params.toList.all fun t => decide (t < Try.prog.types.size)) = true := by kernel_rfl
    exact fun t ht => of_decide_eq_true (List.all_eq_true.1 h t ht)
  · intro ds hds
    obtain ⟨d0, d1, d2, rfl⟩ := list3 (l := ds) hds
    rfl
  · intro W base args ds ps hA hok hsz
    obtain ⟨v0, v1, v2, d0, d1, d2, p0, p1, p2, rfl, rfl, rfl, h0, h1, h2⟩ := Go.ChangeShapes.trodAll_three (t := 22) (t' := 22) (t'' := 34) hA
    obtain ⟨l0, b0, g0, rfl, wf0, len0, hp0⟩ := slice_view Try.underlying22 Try.underlying5 (by kernel_rfl) h0 (hok 0 22 v0 rfl rfl)
    obtain ⟨l1, b1, g1, rfl, wf1, len1, hp1⟩ := slice_view Try.underlying22 Try.underlying5 (by kernel_rfl) h1 (hok 1 22 v1 rfl rfl)
    obtain ⟨l2, b2, g2, rfl, wf2, len2, hp2⟩ := slice_view Try.underlying34 Try.underlying35 (by kernel_rfl) h2 (hok 2 34 v2 rfl rfl)
    have hin : ∀ F, genE 6 f4.inA F (dv1 f4.o0) (VV × ME) [.vw true 0 0 l0.length 1, .vw true 2 0 l1.length 3, .vw true 4 0 l2.length 5] [(0, ([.ints .u8 l0.length l0], 0, .ro)), (2, ([.ints .u8 l1.length l1], 0, .ro)), (4, ([.ints .u16 l2.length l2], 0, .ro))] 6 (fun v me => some (v, me)) = (F (l0.length, l1.length, l2.length, l0.length, l0, l1.length, l1, l2.length, l2)).bind fun y => some (.bool y.1, { rd := [0, 2, 4] }) := fun _ => by kernel_rfl
    have h := law_calls_any (vs := [.vw true 0 0 l0.length 1, .vw true 2 0 l1.length 3, .vw true 4 0 l2.length 5]) (M := [(0, ([.ints .u8 l0.length l0], 0, .ro)), (2, ([.ints .u8 l1.length l1], 0, .ro)), (4, ([.ints .u16 l2.length l2], 0, .ro))]) (show EntryOK Try.prog 4 (genE 6 f4.inA (f4.F 100000) (dv1 f4.o0)) from f4.ok 100000) ((hin _).trans (by rw [show f4.F 100000 (l0.length, l1.length, l2.length, l0.length, l0, l1.length, l1, l2.length, l2) = _ from f4.holds l0 (fun z hz => Go.VM.wf_u8 (wf0 z hz)) l1 (fun z hz => Go.VM.wf_u8 (wf1 z hz)) l2 (fun z hz => Go.VM.wf_u16 (wf2 z hz))]; rfl)) rfl
      (by simp [VV.okL, VV.ids, VV.idss, VV.mem, VV.mems, VV.sto]) (fun i => if i = 0 then b0 else if i = 1 then g0 else if i = 2 then b1 else if i = 3 then g1 else if i = 4 then b2 else g2) W (fun q hq => by
        simp only [List.mem_cons, List.not_mem_nil, or_false] at hq
        rcases hq with rfl | rfl | rfl
        · exact ⟨rfl, rfl, by simp [bids, VV.idss, VV.ids], ro_holds rfl hp0⟩
        · exact ⟨rfl, rfl, by simp [bids, VV.idss, VV.ids], ro_holds rfl hp1⟩
        · exact ⟨rfl, rfl, by simp [bids, VV.idss, VV.ids], ro_holds rfl hp2⟩) (fun x hx => by simp [globs] at hx)
    exact h
set_option maxRecDepth 1000000 in
theorem macsParts_holds : Rows.MacsPartsSaid :=
  OpenClaim.holds_of_wide 4 Try.f4 rfl rfl rfl rfl rfl rfl rfl ⟨rfl, rfl, rfl, rfl, rfl⟩ rfl rfl rfl rfl rfl (by kernel_rfl) Try.func4 (by kernel_rfl)
    (of_decide_eq_true (by kernel_rfl)) (by unfold Func.isWrapper; first | (rw [if_pos (by decide +kernel)]; kernel_rfl) | (rw [if_neg (by decide +kernel)]; exact ⟨rfl, rfl⟩))
    (fun os started H enc _ => macsParts_lifted os started H enc)
end Go.Proofs.Ytmbbkmljmienjaa
