/- One Go function: a Lean function with the same answers, and the proof that the call comes to them. -/
import Derived.Test.YtjkelipglcnpmaaTy
namespace Go.Proofs
open Go.VM
/-! ### (burrow/limbs.halves).whole -/
noncomputable def f93.c : Code := bodyOf Try.f93
def f93.lp (_ : Nat) : Nat → Option (Hint × Summ) := fun _ => none
noncomputable def f93.tab (_K : Nat) : List (Nat × Entry) := []
theorem f93.tabOK (K : Nat) : SpecOK Try.prog (tabSp (f93.tab K)) := tab_ok tab_nil
theorem f93.loops (K : Nat) : LoopsOK Try.prog 22 0 (f93.lp K) f93.c := loops_ok (by
  have h : loopsIn (f93.lp K) f93.c = [] := by kernel_rfl
  rw [h]; simp)
def f93.T (_K : Nat) (a0 : List Int) : Option (List Int) :=
  some ([(bits .or .u64 (IntKind.wrap .u64 ((List.getD a0 1 0) * 2 ^ 32)) (List.getD a0 0 0)), (bits .or .u64 (IntKind.wrap .u64 ((List.getD a0 3 0) * 2 ^ 32)) (List.getD a0 2 0)), (bits .or .u64 (IntKind.wrap .u64 ((List.getD a0 5 0) * 2 ^ 32)) (List.getD a0 4 0)), (bits .or .u64 (IntKind.wrap .u64 ((List.getD a0 7 0) * 2 ^ 32)) (List.getD a0 6 0))])
def f93.F (K : Nat) (x : List Int) : Option (List Int) := f93.T K x
def f93.mk (y : List Int) : VV := .agg [.ints .u64 4 y]
def f93.inA : List VV → Option (List Int)
  | [.agg [.ints .u64 8 a0]] => some a0
  | _ => none
def f93.shp (x : List Int) : List VV := [.agg [.ints .u64 8 x]]
def f93.inR : VV → Option (List Int)
  | .agg [.ints .u64 4 y] => some y
  | _ => none
noncomputable def f93.E (K : Nat) : Entry := pureE f93.inA (f93.F K) f93.mk
theorem f93.eq (K : Nat) (x : List Int) : f93.F K x = xrun (getA tys) (tabSp (f93.tab K)) Try.f93.ntmps 0 (f93.lp K) 400 f93.c ⟨initL 0 (f93.shp x), [], 0⟩ (contF (getA tys) Try.f93.results.toList fun v _ => f93.inR v) := by kernel_rfl
theorem f93.ok (K : Nat) : EntryOK Try.prog 93 (f93.E K) :=
  pure_ok mix tys_ok (f93.tabOK K) Try.func93 (by kernel_rfl : Try.f93.body = some f93.c) (by kernel_rfl) (f93.loops K) (shp := f93.shp) (fuel := 400)
    (by intro vs x h; unfold f93.inA at h; split at h <;> simp at h; subst h; rfl) (by intro v y h; unfold f93.inR at h; split at h <;> simp at h; subst h; exact ⟨rfl, rfl⟩)
    (by intro x; exact ⟨Nat.le_of_ble_eq_true rfl, rfl⟩) (f93.eq K)
end Go.Proofs
