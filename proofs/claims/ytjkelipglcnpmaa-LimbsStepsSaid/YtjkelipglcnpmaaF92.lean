/- One Go function: a Lean function with the same answers, and the proof that the call comes to them. -/
import Derived.Test.YtjkelipglcnpmaaTy
namespace Go.Proofs
open Go.VM
/-! ### burrow/limbs.apart -/
noncomputable def f92.c : Code := bodyOf Try.f92
def f92.lp (_ : Nat) : Nat → Option (Hint × Summ) := fun _ => none
noncomputable def f92.tab (_K : Nat) : List (Nat × Entry) := []
theorem f92.tabOK (K : Nat) : SpecOK Try.prog (tabSp (f92.tab K)) := tab_ok tab_nil
theorem f92.loops (K : Nat) : LoopsOK Try.prog 20 0 (f92.lp K) f92.c := loops_ok (by
  have h : loopsIn (f92.lp K) f92.c = [] := by kernel_rfl
  rw [h]; simp)
def f92.T (_K : Nat) (a0 : List Int) : Option (List Int) :=
  some ([(bits .and .u64 (Int.fdiv (List.getD a0 0 0) (2 ^ 0)) 4294967295), (bits .and .u64 (Int.fdiv (List.getD a0 0 0) (2 ^ 32)) 4294967295), (bits .and .u64 (Int.fdiv (List.getD a0 1 0) (2 ^ 0)) 4294967295), (bits .and .u64 (Int.fdiv (List.getD a0 1 0) (2 ^ 32)) 4294967295), (bits .and .u64 (Int.fdiv (List.getD a0 2 0) (2 ^ 0)) 4294967295), (bits .and .u64 (Int.fdiv (List.getD a0 2 0) (2 ^ 32)) 4294967295), (bits .and .u64 (Int.fdiv (List.getD a0 3 0) (2 ^ 0)) 4294967295), (bits .and .u64 (Int.fdiv (List.getD a0 3 0) (2 ^ 32)) 4294967295)])
def f92.F (K : Nat) (x : List Int) : Option (List Int) := f92.T K x
def f92.mk (y : List Int) : VV := .agg [.ints .u64 8 y]
def f92.inA : List VV → Option (List Int)
  | [.agg [.ints .u64 4 a0]] => some a0
  | _ => none
def f92.shp (x : List Int) : List VV := [.agg [.ints .u64 4 x]]
def f92.inR : VV → Option (List Int)
  | .agg [.ints .u64 8 y] => some y
  | _ => none
noncomputable def f92.E (K : Nat) : Entry := pureE f92.inA (f92.F K) f92.mk
theorem f92.eq (K : Nat) (x : List Int) : f92.F K x = xrun (getA tys) (tabSp (f92.tab K)) Try.f92.ntmps 0 (f92.lp K) 400 f92.c ⟨initL 0 (f92.shp x), [], 0⟩ (contF (getA tys) Try.f92.results.toList fun v _ => f92.inR v) := by kernel_rfl
theorem f92.ok (K : Nat) : EntryOK Try.prog 92 (f92.E K) :=
  pure_ok mix tys_ok (f92.tabOK K) Try.func92 (by kernel_rfl : Try.f92.body = some f92.c) (by kernel_rfl) (f92.loops K) (shp := f92.shp) (fuel := 400)
    (by intro vs x h; unfold f92.inA at h; split at h <;> simp at h; subst h; rfl) (by intro v y h; unfold f92.inR at h; split at h <;> simp at h; subst h; exact ⟨rfl, rfl⟩)
    (by intro x; exact ⟨Nat.le_of_ble_eq_true rfl, rfl⟩) (f92.eq K)
end Go.Proofs
