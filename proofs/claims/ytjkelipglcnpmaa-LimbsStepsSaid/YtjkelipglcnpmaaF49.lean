/- One Go function: a Lean function with the same answers, and the proof that the call comes to them. -/
import Derived.Test.YtjkelipglcnpmaaTy
import Derived.Test.YtjkelipglcnpmaaF50
import Derived.Test.YtjkelipglcnpmaaF48
namespace Go.Proofs
open Go.VM
/-! ### burrow/burrowlaw02.all -/
noncomputable def f49.c : Code := bodyOf Try.f49
def f49.lp (_ : Nat) : Nat → Option (Hint × Summ) := fun _ => none
noncomputable def f49.tab (K : Nat) : List (Nat × Entry) := [(50, f50.E K), (48, f48.E K)]
theorem f49.tabOK (K : Nat) : SpecOK Try.prog (tabSp (f49.tab K)) := tab_ok ((tab_cons (f50.ok K) (tab_cons (f48.ok K) tab_nil)))
theorem f49.loops (K : Nat) : LoopsOK Try.prog 3 0 (f49.lp K) f49.c := loops_ok (by
  have h : loopsIn (f49.lp K) f49.c = [] := by kernel_rfl
  rw [h]; simp)
def f49.T (K : Nat)  : Option (List Int) :=
  (f50.F K ()).bind fun y1 =>
  (f48.F K y1).bind fun y2 =>
  some y2
def f49.F (K : Nat) (_x : Unit) : Option (List Int) := f49.T K 
def f49.mk (y : List Int) : VV := .agg [.ints .u64 4 y]
def f49.inA : List VV → Option (Unit)
  | [] => some ()
  | _ => none
def f49.shp (_x : Unit) : List VV := []
def f49.inR : VV → Option (List Int)
  | .agg [.ints .u64 4 y] => some y
  | _ => none
noncomputable def f49.E (K : Nat) : Entry := pureE f49.inA (f49.F K) f49.mk
theorem f49.eq (K : Nat) (x : Unit) : f49.F K x = xrun (getA tys) (tabSp (f49.tab K)) Try.f49.ntmps 0 (f49.lp K) 400 f49.c ⟨initL 0 (f49.shp x), [], 0⟩ (contF (getA tys) Try.f49.results.toList fun v _ => f49.inR v) := by kernel_rfl
theorem f49.ok (K : Nat) : EntryOK Try.prog 49 (f49.E K) :=
  pure_ok mix tys_ok (f49.tabOK K) Try.func49 (by kernel_rfl : Try.f49.body = some f49.c) (by kernel_rfl) (f49.loops K) (shp := f49.shp) (fuel := 400)
    (by intro vs x h; unfold f49.inA at h; split at h <;> simp at h; rfl) (by intro v y h; unfold f49.inR at h; split at h <;> simp at h; subst h; exact ⟨rfl, rfl⟩)
    (by intro x; exact ⟨Nat.le_of_ble_eq_true rfl, rfl⟩) (f49.eq K)
end Go.Proofs
