/- One Go function: a Lean function with the same answers, and the proof that the call comes to them. -/
import Derived.Test.YtjkelipglcnpmaaTy
namespace Go.Proofs
open Go.VM
/-! ### burrow/burrowlaw02.none -/
noncomputable def f50.c : Code := bodyOf Try.f50
def f50.lp (_ : Nat) : Nat → Option (Hint × Summ) := fun _ => none
noncomputable def f50.tab (_K : Nat) : List (Nat × Entry) := []
theorem f50.tabOK (K : Nat) : SpecOK Try.prog (tabSp (f50.tab K)) := tab_ok tab_nil
theorem f50.loops (K : Nat) : LoopsOK Try.prog 2 0 (f50.lp K) f50.c := loops_ok (by
  have h : loopsIn (f50.lp K) f50.c = [] := by kernel_rfl
  rw [h]; simp)
def f50.T (_K : Nat)  : Option (List Int) :=
  some ([0, 0, 0, 0])
def f50.F (K : Nat) (_x : Unit) : Option (List Int) := f50.T K 
def f50.mk (y : List Int) : VV := .agg [.ints .u64 4 y]
def f50.inA : List VV → Option (Unit)
  | [] => some ()
  | _ => none
def f50.shp (_x : Unit) : List VV := []
def f50.inR : VV → Option (List Int)
  | .agg [.ints .u64 4 y] => some y
  | _ => none
noncomputable def f50.E (K : Nat) : Entry := pureE f50.inA (f50.F K) f50.mk
theorem f50.eq (K : Nat) (x : Unit) : f50.F K x = xrun (getA tys) (tabSp (f50.tab K)) Try.f50.ntmps 0 (f50.lp K) 400 f50.c ⟨initL 0 (f50.shp x), [], 0⟩ (contF (getA tys) Try.f50.results.toList fun v _ => f50.inR v) := by kernel_rfl
theorem f50.ok (K : Nat) : EntryOK Try.prog 50 (f50.E K) :=
  pure_ok mix tys_ok (f50.tabOK K) Try.func50 (by kernel_rfl : Try.f50.body = some f50.c) (by kernel_rfl) (f50.loops K) (shp := f50.shp) (fuel := 400)
    (by intro vs x h; unfold f50.inA at h; split at h <;> simp at h; rfl) (by intro v y h; unfold f50.inR at h; split at h <;> simp at h; subst h; exact ⟨rfl, rfl⟩)
    (by intro x; exact ⟨Nat.le_of_ble_eq_true rfl, rfl⟩) (f50.eq K)
end Go.Proofs
