/- TagsOf: the row and its tied card, proved: the frame is law_lifted_laid (Fq), the walk is f3.ok, the plain law is f3.holds. -/
import Derived.Test.YtlncodfolaoilaaDoorQ2
import Derived.Test.YtlncodfolaoilaaDoorQ7
import Derived.Test.YtlncodfolaoilaaDoorRows
import Derived.Test.YtlncodfolaoilaaDoorCards
import Derived.Test.YtlncodfolaoilaaDoorTie
import Derived.SevenTiedAt
namespace Go.Proofs.YtlncodfolaoilaaDoor
open Go.VM
theorem door_met (os : Os) (args : Array Value) : laidMetH Tryd.prog [("burrow/tags.shifts", Rows.laid_burrow_tags_shifts)] ((World.doorLaid Tryd.prog 400 os).forCall (fun _ _ => 0) ⟨#[], args, []⟩).memory :=
  laidMetH_of_parts3 (fuel := 8) (laidMet_of_run' 8 (by kernel_rfl) (by kernel_rfl)) (by kernel_rfl) (by kernel_rfl)
theorem gl_of {W : World} (h : laidMetH Tryd.prog [("burrow/tags.shifts", Rows.laid_burrow_tags_shifts)] W) : GL W := by
  obtain ⟨t, fz, hh⟩ := heap_of_laid (l := [12, 8, 4, 0]) (by kernel_rfl) h (g := 0) (by kernel_rfl) rfl (by kernel_rfl : _ = some 43) Tryd.underlying43 Tryd.underlying3 (by kernel_rfl) (by kernel_rfl)
  intro x hx
  simp only [globs, List.mem_singleton] at hx
  subst hx
  exact ⟨[], t, fz, by rw [List.append_nil]; exact hh⟩
set_option maxRecDepth 100000 in
theorem tagsOf_lifted (os : Os) (started : os.Started) (H : Type) (enc : TypeId × Value → H) :
    ReturnsInHanded {} Tryd.checked os 3 .any (fun w args => (Rows.tagsOfSpec.pre enc Tryd.prog Tryd.f3 [] false w args ∧ laidMetH Tryd.prog [("burrow/tags.shifts", Rows.laid_burrow_tags_shifts)] w) ∧ sizedMet enc Tryd.prog Tryd.f3 (OpenSpec.ofChange Rows.tagsOfSpec) false w args)
      (Rows.tagsOfSpec.post enc Tryd.prog Tryd.f3 false true false false) := by
  refine law_lifted_laid (C := Tryd.checked) (n := 8) (X := fun w => laidMetH Tryd.prog [("burrow/tags.shifts", Rows.laid_burrow_tags_shifts)] w) (fun _ _ hh h => h.of_heap hh) (by kernel_rfl) started (by kernel_rfl) Tryd.func3
    (ChangeSpec.witness_shaped (enc := enc) (C := Tryd.checked) (os := os) (X := fun w _ => laidMetH Tryd.prog [("burrow/tags.shifts", Rows.laid_burrow_tags_shifts)] w) false (World.doorLaid Tryd.prog 400 os) #[.agg (Array.replicate 4 (.int .u64 0)), .agg (Array.replicate 32 (.int .u8 0)), .string ByteArray.empty] 8 rfl (World.shaped_of_RefB (by kernel_rfl) (by kernel_rfl)) (by kernel_rfl) (by kernel_rfl) (by kernel_rfl) (door_met os _)) ?_ rfl (tb := 4) rfl Tryd.underlying4 ?_ ?_
  · have h : (Tryd.f3.params.toList.all fun t => flat Tryd.prog 8 t) = true := by kernel_rfl
    exact List.all_eq_true.1 h
  · intro ds hds
    obtain ⟨d0, d1, d2, rfl⟩ := list3 (l := ds) hds
    rfl
  · intro W args hL hsz hr
    obtain ⟨v0, v1, v2, rfl⟩ := args3 (args := args) hsz
    obtain ⟨a0, h0, rfl⟩ := reads_num Tryd.underlying24 Tryd.underlying22 (by kernel_rfl) (by kernel_rfl) (hr 0 24 v0 rfl rfl)
    obtain ⟨a1, h1, rfl⟩ := reads_pair Tryd.underlying5 (by kernel_rfl) Tryd.underlying26 (by kernel_rfl) Tryd.underlying27 (by kernel_rfl) (hr 1 27 v1 rfl rfl)
    obtain ⟨a2, _, rfl⟩ := reads_str Tryd.underlying9 (hr 2 9 v2 rfl rfl)
    exact law_calls (f3.ok 100000) (vs := [.agg [.ints .u64 4 (num a0)], .agg [.ints .u8 32 a1], .str a2]) (x := (num a0, a1, a2)) (f3.holds a0 h0 a1 h1 a2) (fun _ => by kernel_rfl) rfl W (gl_of hL)
set_option maxRecDepth 1000000 in
theorem tagsOf_row : Rows.TagsOfSaid :=
  OpenClaim.holds_of_wide 3 Tryd.f3 rfl rfl rfl rfl rfl rfl rfl ⟨rfl, rfl, rfl, rfl, rfl⟩ rfl rfl rfl rfl rfl (by kernel_rfl) Tryd.func3 (by kernel_rfl)
    (of_decide_eq_true (by kernel_rfl)) (by unfold Func.isWrapper; first | (rw [if_pos (by decide +kernel)]; kernel_rfl) | (rw [if_neg (by decide +kernel)]; exact ⟨rfl, rfl⟩))
    (fun os started H enc _ => tagsOf_lifted os started H enc)
theorem tagsOf_holds : Rows.TagsOfCardSaid :=
  Claim7.holds_tied_plain_at .later [] [.data] true (true, "f6647984ca0c03161c0b7f9e51ac05946a568a4539577744ece74af6751440fc") false
    tagsOf_row (fun _ h => by cases h) (by kernel_rfl) (fun _ h => by cases h) tagsOf_row_tie rfl ⟨rfl, rfl⟩ (by kernel_rfl) rfl
    (fun f fn hf hfn => by
      obtain rfl : f = 3 := Option.some.inj ((show Tryd.prog.funcNamed "burrow/burrowlaw12.TagsOf" = some 3 by kernel_rfl).symm.trans hf) |>.symm
      obtain rfl : fn = Tryd.f3 := (Option.some.inj (Tryd.func3.symm.trans hfn)).symm
      exact ⟨by kernel_rfl, fun j t ht => by
        have hm : t ∈ Tryd.f3.params.toList := by simpa using Array.mem_of_getElem? ht
        have hall : (Tryd.f3.params.toList.all fun u => !Tryd.prog.wantsStandIn u) = true := by kernel_rfl
        exact (show Tryd.prog.wantsStandIn t = false by simpa using List.all_eq_true.1 hall t hm)⟩)
    (by kernel_rfl)
end Go.Proofs.YtlncodfolaoilaaDoor
