/- ShasNone: the row, proved: the frame is law_lifted_any (Fv), the walk is f3.ok, the plain law is f3.holds; with no condition but those that the statement names. -/
import Derived.Test.YtlncodfolaoilaaQ2
import Derived.Test.YtlncodfolaoilaaRows
namespace Go.Proofs
open Go.VM
theorem f3.holds (K : Nat) (l : List Int) : f3.F K (l.length, l.length, l) = some (true, l.length, l) := by
  have hb : Nat.ble (0 + l.length) l.length = true := Nat.ble_eq_true_of_le (by omega)
  have hz : eqL 32 [0, 0, 0, 0, 0, 0, 0, 0, 0, 0, 0, 0, 0, 0, 0, 0, 0, 0, 0, 0, 0, 0, 0, 0, 0, 0, 0, 0, 0, 0, 0, 0] [0, 0, 0, 0, 0, 0, 0, 0, 0, 0, 0, 0, 0, 0, 0, 0, 0, 0, 0, 0, 0, 0, 0, 0, 0, 0, 0, 0, 0, 0, 0, 0] = true := by decide +kernel
  simp only [f3.F, f3.T, f15.F, f15.T, f16.F, f16.T, f15v1.F, f15v1.T, f16v1.F, f16v1.T]
  rw [hb]
  simp only [Bool.and_self, cond_true, Option.bind_some, hz, Bool.not_true, cond_false, bne_self_eq_false]
end Go.Proofs
namespace Go.Proofs.Ytlncodfolaoilaa
open Go.VM
set_option maxRecDepth 100000 in
set_option maxHeartbeats 1000000 in
theorem shasNone_lifted (os : Os) (started : os.Started) (H : Type) (enc : TypeId × Value → H) :
    ReturnsInHanded {} Try.checked os 3 .any (Rows.shasNoneSpec.pre6 enc Try.prog Try.f3 Rows.shasNoneRow.domain false) (Rows.shasNoneSpec.post enc Try.prog Try.f3 false true false false) := by
  refine law_lifted_any (C := Try.checked) (by kernel_rfl) started (by kernel_rfl) Try.func3
    (ChangeSpec.witness6 (enc := enc) (C := Try.checked) false ⟨#[], #[.slice none 0 0], []⟩ 8 (by kernel_rfl) (by kernel_rfl) (by kernel_rfl) (by kernel_rfl)) (by kernel_rfl) (by kernel_rfl) (by kernel_rfl) ?_ rfl rfl (tb := 4) Try.underlying4 ?_ ?_
  · have h : (Try.f3.params.toList.all fun t => decide (t < Try.prog.types.size)) = true := by kernel_rfl
    exact fun t ht => of_decide_eq_true (List.all_eq_true.1 h t ht)
  · intro ds hds
    obtain ⟨d0, rfl⟩ := list1 (l := ds) hds
    rfl
  · intro W base args ds ps hA hok
    obtain ⟨v0, d0, rfl, rfl, h0⟩ := Go.ChangeShapes.trodAll_one (t := 22) hA
    obtain ⟨l, b, g, rfl, hwf, hlen, hheap⟩ := slice_view Try.underlying22 Try.underlying5 (by kernel_rfl) h0 (hok 0 22 v0 rfl rfl)
    have hin : ∀ F, genE 2 f3.inA F (dv1 f3.o0) (VV × ME) [.vw true 0 0 l.length 1] [(0, ([.ints .u8 l.length l], 0, .ro))] 2 (fun v me => some (v, me)) = (F (l.length, l.length, l)).bind fun y => some (.bool y.1, { rd := [0] }) := fun _ => by kernel_rfl
    have h := law_calls_view1 (k := .u8) (l := l) (b := b) (g := g) (W := W) (vs := [.vw true 0 0 l.length 1]) (show EntryOK Try.prog 3 (genE 2 f3.inA (f3.F 100000) (dv1 f3.o0)) from f3.ok 100000) ((hin _).trans (by rw [f3.holds]; rfl))
      (fun u hu => by simp only [List.mem_singleton] at hu; subst hu; exact ⟨rfl, by simp [VV.ids]⟩) hheap (fun x hx => by simp [globs] at hx)
    exact h
set_option maxRecDepth 1000000 in
theorem shasNone_holds : Rows.ShasNoneSaid :=
  OpenClaim.holds_of_wide 3 Try.f3 rfl rfl rfl rfl rfl rfl rfl ⟨rfl, rfl, rfl, rfl, rfl⟩ rfl rfl rfl rfl rfl (by kernel_rfl) Try.func3 (by kernel_rfl)
    (of_decide_eq_true (by kernel_rfl)) (by unfold Func.isWrapper; first | (rw [if_pos (by decide +kernel)]; kernel_rfl) | (rw [if_neg (by decide +kernel)]; exact ⟨rfl, rfl⟩))
    (fun os started H enc _ => shasNone_lifted os started H enc)
end Go.Proofs.Ytlncodfolaoilaa
