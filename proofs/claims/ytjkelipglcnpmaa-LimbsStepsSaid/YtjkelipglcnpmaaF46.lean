/- One Go function: a Lean function with the same answers, and the proof that the call comes to them. -/
import Derived.Test.YtjkelipglcnpmaaTy
namespace Go.Proofs
open Go.VM
/-! ### burrow/limbs.Of -/
noncomputable def f46.c : Code := bodyOf Try.f46
def f46.lp (_ : Nat) : Nat → Option (Hint × Summ) := fun _ => none
noncomputable def f46.tab (_K : Nat) : List (Nat × Entry) := []
theorem f46.tabOK (K : Nat) : SpecOK Try.prog (tabSp (f46.tab K)) := tab_ok tab_nil
theorem f46.loops (K : Nat) : LoopsOK Try.prog 6 0 (f46.lp K) f46.c := loops_ok (by
  have h : loopsIn (f46.lp K) f46.c = [] := by kernel_rfl
  rw [h]; simp)
def f46.T (_K : Nat) (a0 : Int) : Option (List Int) :=
  some ([a0, 0, 0, 0])
def f46.F (K : Nat) (x : Int) : Option (List Int) := f46.T K x
def f46.mk (y : List Int) : VV := .agg [.ints .u64 4 y]
def f46.inA : List VV → Option (Int)
  | [.int .u64 a0] => some a0
  | _ => none
def f46.shp (x : Int) : List VV := [.int .u64 x]
def f46.inR : VV → Option (List Int)
  | .agg [.ints .u64 4 y] => some y
  | _ => none
noncomputable def f46.E (K : Nat) : Entry := pureE f46.inA (f46.F K) f46.mk
theorem f46.eq (K : Nat) (x : Int) : f46.F K x = xrun (getA tys) (tabSp (f46.tab K)) Try.f46.ntmps 0 (f46.lp K) 400 f46.c ⟨initL 0 (f46.shp x), [], 0⟩ (contF (getA tys) Try.f46.results.toList fun v _ => f46.inR v) := by kernel_rfl
theorem f46.ok (K : Nat) : EntryOK Try.prog 46 (f46.E K) :=
  pure_ok mix tys_ok (f46.tabOK K) Try.func46 (by kernel_rfl : Try.f46.body = some f46.c) (by kernel_rfl) (f46.loops K) (shp := f46.shp) (fuel := 400)
    (by intro vs x h; unfold f46.inA at h; split at h <;> simp at h; subst h; rfl) (by intro v y h; unfold f46.inR at h; split at h <;> simp at h; subst h; exact ⟨rfl, rfl⟩)
    (by intro x; exact ⟨Nat.le_of_ble_eq_true rfl, rfl⟩) (f46.eq K)
end Go.Proofs
