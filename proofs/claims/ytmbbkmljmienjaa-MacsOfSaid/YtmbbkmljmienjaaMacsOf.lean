/- MacsOf: the row, proved: the frame is law_lifted_sized (Fb), the walk is f3.ok, the plain law is f3.holds; with no condition but those that the statement names. -/
import Derived.Test.YtmbbkmljmienjaaQ3
import Derived.Test.YtmbbkmljmienjaaQ8
import Derived.Test.YtmbbkmljmienjaaRows
namespace Go.Proofs.Ytmbbkmljmienjaa
open Go.VM
set_option maxRecDepth 100000 in
set_option maxHeartbeats 1000000 in
theorem macsOf_lifted (os : Os) (started : os.Started) (H : Type) (enc : TypeId × Value → H) :
    ReturnsInHanded {} Try.checked os 3 .any (Rows.macsOfSpec.pre6 enc Try.prog Try.f3 Rows.macsOfRow.domain false) (Rows.macsOfSpec.post enc Try.prog Try.f3 false true false false) := by
  refine law_lifted_sized (C := Try.checked) (by kernel_rfl) started (by kernel_rfl) Try.func3
    (ChangeSpec.witness6 (enc := enc) (C := Try.checked) false ⟨#[], #[.slice none 0 0, .slice none 0 0], []⟩ 8 (by kernel_rfl) (by kernel_rfl) (by kernel_rfl) (by kernel_rfl)) (by kernel_rfl) (by kernel_rfl) (by kernel_rfl) ?_ rfl rfl (tb := 4) Try.underlying4 ?_ ?_
  · have h : (Try.f3.params.toList.all fun t => decide (t < Try.prog.types.size)) = true := by kernel_rfl
    exact fun t ht => of_decide_eq_true (List.all_eq_true.1 h t ht)
  · intro ds hds
    obtain ⟨d0, d1, rfl⟩ := list2 (l := ds) hds
    rfl
  · intro W base args ds ps hA hok hsz
    obtain ⟨v0, v1, d0, d1, p0, p1, rfl, rfl, rfl, h0, h1⟩ := Go.ChangeShapes.trodAll_two (t := 22) (t' := 23) hA
    obtain ⟨l0, b0, g0, rfl, wf0, len0, hp0⟩ := slice_view Try.underlying22 Try.underlying5 (by kernel_rfl) h0 (hok 0 22 v0 rfl rfl)
    obtain ⟨l1, b1, g1, q1, rfl, wf1, len1, many1, hE1, hp1⟩ := rows_view Try.underlying23 Try.underlying22 (by kernel_rfl) Try.underlying5 (by kernel_rfl) h1 (hok 1 23 v1 rfl rfl) (by kernel_rfl) (weights_le hsz (j := 1) rfl rfl)
    have hin : ∀ F, genE 5 f3.inA F (dv1 f3.o0) (VV × ME) [.vw true 0 0 l0.length 1, .vw true 2 0 l1.length 3] [(0, ([.ints .u8 l0.length l0], 0, .ro)), (2, ([], 0, .rr false 4 (entsL l1)))] 5 (fun v me => some (v, me)) = (F (l0.length, l1.length, l0.length, l0, entsL l1)).bind fun y => some (.bool y.1, { rd := [0, 2] }) := fun _ => by kernel_rfl
    have h := law_calls_any (vs := [.vw true 0 0 l0.length 1, .vw true 2 0 l1.length 3]) (M := [(0, ([.ints .u8 l0.length l0], 0, .ro)), (2, ([], 0, .rr false 4 (entsL l1)))]) (show EntryOK Try.prog 3 (genE 5 f3.inA (f3.F 100000) (dv1 f3.o0)) from f3.ok 100000) ((hin _).trans (by rw [show f3.F 100000 (l0.length, l1.length, l0.length, l0, entsL l1) = _ from f3.holds l0 (fun z hz => Go.VM.wf_u8 (wf0 z hz)) l1 wf1 len1]; rfl)) rfl
      (by simp [VV.okL, VV.ids, VV.idss, VV.mem, VV.mems, VV.sto]) (fun i => if i = 0 then b0 else if i = 1 then g0 else if i = 2 then b1 else if i = 3 then g1 else q1) W (fun q hq => by
        simp only [List.mem_cons, List.not_mem_nil, or_false] at hq
        rcases hq with rfl | rfl
        · exact ⟨rfl, rfl, by simp [bids, VV.idss, VV.ids], ro_holds rfl hp0⟩
        · exact ⟨rfl, rfl, by simp [bids, VV.idss, VV.ids], rr_holds rfl rfl hE1 hp1⟩) (fun x hx => by simp [globs] at hx)
    exact h
set_option maxRecDepth 1000000 in
theorem macsOf_holds : Rows.MacsOfSaid :=
  OpenClaim.holds_of_wide 3 Try.f3 rfl rfl rfl rfl rfl rfl rfl ⟨rfl, rfl, rfl, rfl, rfl⟩ rfl rfl rfl rfl rfl (by kernel_rfl) Try.func3 (by kernel_rfl)
    (of_decide_eq_true (by kernel_rfl)) (by unfold Func.isWrapper; first | (rw [if_pos (by decide +kernel)]; kernel_rfl) | (rw [if_neg (by decide +kernel)]; exact ⟨rfl, rfl⟩))
    (fun os started H enc _ => macsOf_lifted os started H enc)
end Go.Proofs.Ytmbbkmljmienjaa
