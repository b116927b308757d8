/- ShasHalves: the row, proved: the frame is law_lifted_sized (Fb), the walk is f7.ok, the plain law is f7.holds; with no condition but those that the statement names. -/
import Derived.Test.YtmbbkmljmienjaaQ3
import Derived.Test.YtmbbkmljmienjaaQ8
import Derived.Test.YtmbbkmljmienjaaRows
namespace Go.Proofs.Ytmbbkmljmienjaa
open Go.VM
set_option maxRecDepth 100000 in
set_option maxHeartbeats 1000000 in
theorem shasHalves_lifted (os : Os) (started : os.Started) (H : Type) (enc : TypeId × Value → H) :
    ReturnsInHanded {} Try.checked os 7 .any (Rows.shasHalvesSpec.pre6 enc Try.prog Try.f7 Rows.shasHalvesRow.domain false) (Rows.shasHalvesSpec.post enc Try.prog Try.f7 false true false false) := by
  refine law_lifted_sized (C := Try.checked) (by kernel_rfl) started (by kernel_rfl) Try.func7
    (ChangeSpec.witness6 (enc := enc) (C := Try.checked) false ⟨#[], #[.string .empty, .slice none 0 0, .int .u8 0], []⟩ 8 (by kernel_rfl) (by kernel_rfl) (by kernel_rfl) (by kernel_rfl)) (by kernel_rfl) (by kernel_rfl) (by kernel_rfl) ?_ rfl rfl (tb := 4) Try.underlying4 ?_ ?_
  · have h : (Try.f7.params.toList.all fun t => decide (t < Try.prog.types.size)) = true := by kernel_rfl
    exact fun t ht => of_decide_eq_true (List.all_eq_true.1 h t ht)
  · intro ds hds
    obtain ⟨d0, d1, d2, rfl⟩ := list3 (l := ds) hds
    rfl
  · intro W base args ds ps hA hok hsz
    obtain ⟨v0, v1, v2, d0, d1, d2, p0, p1, p2, rfl, rfl, rfl, h0, h1, h2⟩ := Go.ChangeShapes.trodAll_three (t := 9) (t' := 23) (t'' := 5) hA
    obtain ⟨s0, sz0, rfl⟩ := str_view Try.underlying9 h0 (hok 0 9 v0 rfl rfl)
    obtain ⟨l1, b1, g1, q1, rfl, wf1, len1, many1, hE1, hp1⟩ := rows_view Try.underlying23 Try.underlying22 (by kernel_rfl) Try.underlying5 (by kernel_rfl) h1 (hok 1 23 v1 rfl rfl) (by kernel_rfl) (weights_le hsz (j := 1) rfl rfl)
    obtain ⟨z2, wf2, rfl⟩ := int_view Try.underlying5 h2 (hok 2 5 v2 rfl rfl)
    have hin : ∀ F, genE 3 f7.inA F (dv1 f7.o0) (VV × ME) [.str s0, .vw true 0 0 l1.length 1, .int .u8 z2] [(0, ([], 0, .rr false 2 (entsL l1)))] 3 (fun v me => some (v, me)) = (F (s0, l1.length, z2, entsL l1)).bind fun y => some (.bool y.1, { rd := [0] }) := fun _ => by kernel_rfl
    have h := law_calls_any (vs := [.str s0, .vw true 0 0 l1.length 1, .int .u8 z2]) (M := [(0, ([], 0, .rr false 2 (entsL l1)))]) (show EntryOK Try.prog 7 (genE 3 f7.inA (f7.F 100000) (dv1 f7.o0)) from f7.ok 100000) ((hin _).trans (by rw [show f7.F 100000 (s0, l1.length, z2, entsL l1) = _ from f7.holds s0 sz0 l1 wf1 len1 z2 (Go.VM.wf_u8 wf2)]; rfl)) rfl
      (by simp [VV.okL, VV.ids, VV.idss, VV.mem, VV.mems, VV.sto]) (fun i => if i = 0 then b1 else if i = 1 then g1 else q1) W (fun q hq => by
        simp only [List.mem_cons, List.not_mem_nil, or_false] at hq
        rcases hq with rfl
        · exact ⟨rfl, rfl, by simp [bids, VV.idss, VV.ids], rr_holds rfl rfl hE1 hp1⟩) (fun x hx => by simp [globs] at hx)
    exact h
set_option maxRecDepth 1000000 in
theorem shasHalves_holds : Rows.ShasHalvesSaid :=
  OpenClaim.holds_of_wide 7 Try.f7 rfl rfl rfl rfl rfl rfl rfl ⟨rfl, rfl, rfl, rfl, rfl⟩ rfl rfl rfl rfl rfl (by kernel_rfl) Try.func7 (by kernel_rfl)
    (of_decide_eq_true (by kernel_rfl)) (by unfold Func.isWrapper; first | (rw [if_pos (by decide +kernel)]; kernel_rfl) | (rw [if_neg (by decide +kernel)]; exact ⟨rfl, rfl⟩))
    (fun os started H enc _ => shasHalves_lifted os started H enc)
end Go.Proofs.Ytmbbkmljmienjaa
