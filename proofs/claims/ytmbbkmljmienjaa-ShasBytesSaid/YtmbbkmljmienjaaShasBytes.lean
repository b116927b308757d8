/- ShasBytes: the row, proved: the frame is law_lifted_sized (Fb), the walk is f6.ok, the plain law is f6.holds; with no condition but those that the statement names. -/
import Derived.Test.YtmbbkmljmienjaaQ3
import Derived.Test.YtmbbkmljmienjaaQ8
import Derived.Test.YtmbbkmljmienjaaRows
namespace Go.Proofs.Ytmbbkmljmienjaa
open Go.VM
set_option maxRecDepth 100000 in
set_option maxHeartbeats 1000000 in
theorem shasBytes_lifted (os : Os) (started : os.Started) (H : Type) (enc : TypeId × Value → H) :
    ReturnsInHanded {} Try.checked os 6 .any (Rows.shasBytesSpec.pre6 enc Try.prog Try.f6 Rows.shasBytesRow.domain false) (Rows.shasBytesSpec.post enc Try.prog Try.f6 false true false false) := by
  refine law_lifted_sized (C := Try.checked) (by kernel_rfl) started (by kernel_rfl) Try.func6
    (ChangeSpec.witness6 (enc := enc) (C := Try.checked) false ⟨#[], #[.agg #[.string .empty, .string .empty], .slice none 0 0, .slice none 0 0], []⟩ 8 (by kernel_rfl) (by kernel_rfl) (by kernel_rfl) (by kernel_rfl)) (by kernel_rfl) (by kernel_rfl) (by kernel_rfl) ?_ rfl rfl (tb := 4) Try.underlying4 ?_ ?_
  · have h : (Try.f6.params.toList.all fun t => decide (t < Try.prog.types.size)) = true := by kernel_rfl
    exact fun t ht => of_decide_eq_true (List.all_eq_true.1 h t ht)
  · intro ds hds
    obtain ⟨d0, d1, d2, rfl⟩ := list3 (l := ds) hds
    rfl
  · intro W base args ds ps hA hok hsz
    obtain ⟨v0, v1, v2, d0, d1, d2, p0, p1, p2, rfl, rfl, rfl, h0, h1, h2⟩ := Go.ChangeShapes.trodAll_three (t := 46) (t' := 23) (t'' := 23) hA
    obtain ⟨s0, r0, sz0, rz0, rfl⟩ := strs_view Try.underlying9 ⟨by kernel_rfl, by kernel_rfl⟩ Try.underlying46 h0 (hok 0 46 v0 rfl rfl)
    obtain ⟨l1, b1, g1, q1, rfl, wf1, len1, many1, hE1, hp1⟩ := rows_view Try.underlying23 Try.underlying22 (by kernel_rfl) Try.underlying5 (by kernel_rfl) h1 (hok 1 23 v1 rfl rfl) (by kernel_rfl) (weights_le hsz (j := 1) rfl rfl)
    obtain ⟨l2, b2, g2, q2, rfl, wf2, len2, many2, hE2, hp2⟩ := rows_view Try.underlying23 Try.underlying22 (by kernel_rfl) Try.underlying5 (by kernel_rfl) h2 (hok 2 23 v2 rfl rfl) (by kernel_rfl) (weights_le hsz (j := 2) rfl rfl)
    have hin : ∀ F, genE 6 f6.inA F (dv1 f6.o0) (VV × ME) [.agg [.str s0, .str r0], .vw true 0 0 l1.length 1, .vw true 2 0 l2.length 3] [(0, ([], 0, .rr false 4 (entsL l1))), (2, ([], 0, .rr false 5 (entsL l2)))] 6 (fun v me => some (v, me)) = (F (s0, r0, l1.length, l2.length, entsL l1, entsL l2)).bind fun y => some (.bool y.1, { rd := [0, 2] }) := fun _ => by kernel_rfl
    have h := law_calls_any (vs := [.agg [.str s0, .str r0], .vw true 0 0 l1.length 1, .vw true 2 0 l2.length 3]) (M := [(0, ([], 0, .rr false 4 (entsL l1))), (2, ([], 0, .rr false 5 (entsL l2)))]) (show EntryOK Try.prog 6 (genE 6 f6.inA (f6.F 100000) (dv1 f6.o0)) from f6.ok 100000) ((hin _).trans (by rw [show f6.F 100000 (s0, r0, l1.length, l2.length, entsL l1, entsL l2) = _ from f6.holds s0 r0 sz0 rz0 l1 wf1 len1 l2 wf2 len2]; rfl)) rfl
      (by simp [VV.okL, VV.ids, VV.idss, VV.mem, VV.mems, VV.sto]) (fun i => if i = 0 then b1 else if i = 1 then g1 else if i = 2 then b2 else if i = 3 then g2 else if i = 4 then q1 else q2) W (fun q hq => by
        simp only [List.mem_cons, List.not_mem_nil, or_false] at hq
        rcases hq with rfl | rfl
        · exact ⟨rfl, rfl, by simp [bids, VV.idss, VV.ids], rr_holds rfl rfl hE1 hp1⟩
        · exact ⟨rfl, rfl, by simp [bids, VV.idss, VV.ids], rr_holds rfl rfl hE2 hp2⟩) (fun x hx => by simp [globs] at hx)
    exact h
set_option maxRecDepth 1000000 in
theorem shasBytes_holds : Rows.ShasBytesSaid :=
  OpenClaim.holds_of_wide 6 Try.f6 rfl rfl rfl rfl rfl rfl rfl ⟨rfl, rfl, rfl, rfl, rfl⟩ rfl rfl rfl rfl rfl (by kernel_rfl) Try.func6 (by kernel_rfl)
    (of_decide_eq_true (by kernel_rfl)) (by unfold Func.isWrapper; first | (rw [if_pos (by decide +kernel)]; kernel_rfl) | (rw [if_neg (by decide +kernel)]; exact ⟨rfl, rfl⟩))
    (fun os started H enc _ => shasBytes_lifted os started H enc)
end Go.Proofs.Ytmbbkmljmienjaa
