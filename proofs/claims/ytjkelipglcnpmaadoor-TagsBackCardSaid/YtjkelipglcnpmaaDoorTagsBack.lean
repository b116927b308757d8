/- TagsBack: the row and its tied card, proved: the frame is law_lifted_laid (Fq), the walk is f3.ok, the plain law is f3.holds. -/
import Derived.Test.YtjkelipglcnpmaaDoorFr
import Derived.Test.YtjkelipglcnpmaaDoorPt
import Derived.Test.YtjkelipglcnpmaaDoorRows
import Derived.Test.YtjkelipglcnpmaaDoorCards
import Derived.Test.YtjkelipglcnpmaaDoorTie
import Derived.SevenTiedAt
namespace Go.Proofs.YtjkelipglcnpmaaDoor
open Go.VM
theorem door_met (os : Os) (args : Array Value) : laidMetH Tryd.prog [("burrow/tags.shifts", Rows.laid_burrow_tags_shifts)] ((World.doorLaid Tryd.prog 400 os).forCall (fun _ _ => 0) ⟨#[], args, []⟩).memory :=
  laidMetH_of_parts3 (fuel := 8) (laidMet_of_run' 8 (by kernel_rfl) (by kernel_rfl)) (by kernel_rfl) (by kernel_rfl)
theorem gl_of {W : World} (h : laidMetH Tryd.prog [("burrow/tags.shifts", Rows.laid_burrow_tags_shifts)] W) : GL W := by
  obtain ⟨t, fz, hh⟩ := heap_of_laid (l := [12, 8, 4, 0]) (by kernel_rfl) h (g := 0) (by kernel_rfl) rfl (by kernel_rfl : _ = some 34) Tryd.underlying34 Tryd.underlying3 (by kernel_rfl) (by kernel_rfl)
  intro x hx
  simp only [globs, List.mem_singleton] at hx
  subst hx
  exact ⟨[], t, fz, by rw [List.append_nil]; exact hh⟩
set_option maxRecDepth 100000 in
theorem tagsBack_lifted (os : Os) (started : os.Started) (H : Type) (enc : TypeId × Value → H) :
    ReturnsInHanded {} Tryd.checked os 3 .any (fun w args => (Rows.tagsBackSpec.pre enc Tryd.prog Tryd.f3 [] false w args ∧ laidMetH Tryd.prog [("burrow/tags.shifts", Rows.laid_burrow_tags_shifts)] w) ∧ sizedMet enc Tryd.prog Tryd.f3 (OpenSpec.ofChange Rows.tagsBackSpec) false w args)
      (Rows.tagsBackSpec.post enc Tryd.prog Tryd.f3 false true false false) := by
  refine law_lifted_laid (C := Tryd.checked) (n := 8) (X := fun w => laidMetH Tryd.prog [("burrow/tags.shifts", Rows.laid_burrow_tags_shifts)] w) (fun _ _ hh h => h.of_heap hh) (by kernel_rfl) started (by kernel_rfl) Tryd.func3
    (ChangeSpec.witness_shaped (enc := enc) (C := Tryd.checked) (os := os) (X := fun w _ => laidMetH Tryd.prog [("burrow/tags.shifts", Rows.laid_burrow_tags_shifts)] w) false (World.doorLaid Tryd.prog 400 os) #[.agg (Array.replicate 16 (.int .u8 0)), .agg (Array.replicate 16 (.int .u8 0))] 8 rfl (World.shaped_of_RefB (by kernel_rfl) (by kernel_rfl)) (by kernel_rfl) (by kernel_rfl) (by kernel_rfl) (door_met os _)) ?_ rfl (tb := 4) rfl Tryd.underlying4 ?_ ?_
  · have h : (Tryd.f3.params.toList.all fun t => flat Tryd.prog 8 t) = true := by kernel_rfl
    exact List.all_eq_true.1 h
  · intro ds hds
    obtain ⟨d0, d1, rfl⟩ := list2 (l := ds) hds
    rfl
  · intro W args hL hsz hr
    obtain ⟨v0, v1, rfl⟩ := args2 (args := args) hsz
    obtain ⟨a0, h0, rfl⟩ := reads_octets Tryd.underlying23 Tryd.underlying5 (by kernel_rfl) (by kernel_rfl) (hr 0 23 v0 rfl rfl)
    obtain ⟨a1, h1, rfl⟩ := reads_octets Tryd.underlying23 Tryd.underlying5 (by kernel_rfl) (by kernel_rfl) (hr 1 23 v1 rfl rfl)
    exact law_calls (f3.ok 100000) (vs := [.agg [.ints .u8 16 a0], .agg [.ints .u8 16 a1]]) (x := (a0, a1)) (f3.holds a0 a1 h0 h1) (fun _ => by kernel_rfl) rfl W (gl_of hL)
set_option maxRecDepth 1000000 in
theorem tagsBack_row : Rows.TagsBackSaid :=
  OpenClaim.holds_of_wide 3 Tryd.f3 rfl rfl rfl rfl rfl rfl rfl ⟨rfl, rfl, rfl, rfl, rfl⟩ rfl rfl rfl rfl rfl (by kernel_rfl) Tryd.func3 (by kernel_rfl)
    (of_decide_eq_true (by kernel_rfl)) (by unfold Func.isWrapper; first | (rw [if_pos (by decide +kernel)]; kernel_rfl) | (rw [if_neg (by decide +kernel)]; exact ⟨rfl, rfl⟩))
    (fun os started H enc _ => tagsBack_lifted os started H enc)
theorem tagsBack_holds : Rows.TagsBackCardSaid :=
  Claim7.holds_tied_plain_at .later [] [.data] true (true, "4a78f8a2d8650979a02e67aa48df3d6ca6e1982fc43cc357108f333d8291e1f6") false
    tagsBack_row (fun _ h => by cases h) (by kernel_rfl) (fun _ h => by cases h) tagsBack_row_tie rfl ⟨rfl, rfl⟩ (by kernel_rfl) rfl
    (fun f fn hf hfn => by
      obtain rfl : f = 3 := Option.some.inj ((show Tryd.prog.funcNamed "burrow/burrowlaw12.TagsBack" = some 3 by kernel_rfl).symm.trans hf) |>.symm
      obtain rfl : fn = Tryd.f3 := (Option.some.inj (Tryd.func3.symm.trans hfn)).symm
      exact ⟨by kernel_rfl, fun j t ht => by
        have hm : t ∈ Tryd.f3.params.toList := by simpa using Array.mem_of_getElem? ht
        have hall : (Tryd.f3.params.toList.all fun u => !Tryd.prog.wantsStandIn u) = true := by kernel_rfl
        exact (show Tryd.prog.wantsStandIn t = false by simpa using List.all_eq_true.1 hall t hm)⟩)
    (by kernel_rfl)
end Go.Proofs.YtjkelipglcnpmaaDoor
