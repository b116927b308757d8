/- SigsOf: the row, proved: the frame is law_lifted (Fr), the walk is f3.ok, the plain law is f3.holds; with no condition but those that the statement names. -/
import Derived.Test.YtncpjehemmmgkaaGreatQ2
import Derived.Test.YtncpjehemmmgkaaGreatQ10
import Derived.Test.YtncpjehemmmgkaaGreatRows
namespace Go.Proofs.YtncpjehemmmgkaaGreat
open Go.VM
set_option maxRecDepth 100000 in
theorem sigsOf_lifted (os : Os) (started : os.Started) (H : Type) (enc : TypeId × Value → H) :
    ReturnsInHanded {} Tryz.checked os 3 .any (Rows.sigsOfSpec.pre6 enc Tryz.prog Tryz.f3 Rows.sigsOfRow.domain false) (Rows.sigsOfSpec.post enc Tryz.prog Tryz.f3 false true false false) := by
  refine law_lifted (C := Tryz.checked) (n := 8) (by kernel_rfl) started (by kernel_rfl) Tryz.func3
    (ChangeSpec.witness6 (enc := enc) (C := Tryz.checked) false ⟨#[], #[.agg (Array.replicate 16 (.int .u64 0) ++ Array.replicate 32 (.int .u8 0) ++ Array.replicate 12 (.int .u64 0))], []⟩ 8 (by kernel_rfl) (by kernel_rfl) (by kernel_rfl) (by kernel_rfl)) ?_ rfl (tb := 4) rfl Tryz.underlying4 ?_ ?_
  · have h : (Tryz.f3.params.toList.all fun t => flat Tryz.prog 8 t) = true := by kernel_rfl
    exact List.all_eq_true.1 h
  · intro ds hds
    obtain ⟨d0, rfl⟩ := list1 (l := ds) hds
    rfl
  · intro W args hsz hr
    obtain ⟨v0, rfl⟩ := args1 (args := args) hsz
    obtain ⟨p, q, g, m, s, a, c, y, hp, hq, hg, hm, hs, ha, hc, hy, rfl⟩ := reads_given Tryz.underlying24 Tryz.underlying22 (by kernel_rfl) (by kernel_rfl) Tryz.underlying26 ⟨rfl, rfl⟩ ⟨rfl, rfl⟩ ⟨rfl, rfl⟩ (by kernel_rfl) Tryz.underlying28 Tryz.underlying5 (by kernel_rfl) (by kernel_rfl) Tryz.underlying30 ⟨rfl, rfl⟩ ⟨rfl, rfl⟩ (by kernel_rfl) Tryz.underlying32 ⟨rfl, rfl⟩ ⟨rfl, rfl⟩ ⟨rfl, rfl⟩ ⟨rfl, rfl⟩ ⟨rfl, rfl⟩ (by kernel_rfl) (hr 0 32 v0 rfl rfl)
    exact law_calls (f3.ok 100000) (vs := [.agg [.ints .u64 4 (num p), .ints .u64 4 (num q), .ints .u64 4 (num g), .ints .u64 4 (num m), .ints .u8 32 s, .ints .u64 4 (num a), .ints .u64 4 (num c), .ints .u64 4 (num y)]]) (x := (num p, num q, num g, num m, s, num a, num c, num y)) (f3.holds p q g m a c y s hp hq hg hm hs ha hc hy) (fun _ => by kernel_rfl) rfl W (fun x hx => by simp [globs] at hx)
set_option maxRecDepth 1000000 in
theorem sigsOf_holds : Rows.SigsOfSaid :=
  OpenClaim.holds_of_wide 3 Tryz.f3 rfl rfl rfl rfl rfl rfl rfl ⟨rfl, rfl, rfl, rfl, rfl⟩ rfl rfl rfl rfl rfl (by kernel_rfl) Tryz.func3 (by kernel_rfl)
    (of_decide_eq_true (by kernel_rfl)) (by unfold Func.isWrapper; first | (rw [if_pos (by decide +kernel)]; kernel_rfl) | (rw [if_neg (by decide +kernel)]; exact ⟨rfl, rfl⟩))
    (fun os started H enc _ => sigsOf_lifted os started H enc)
end Go.Proofs.YtncpjehemmmgkaaGreat
