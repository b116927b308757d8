/- One Go function: a Lean function with the same answers, and the proof that the call comes to them. -/
import Derived.Test.YtjkelipglcnpmaaTy
import Derived.Test.YtjkelipglcnpmaaF36
import Derived.Test.YtjkelipglcnpmaaF34
import Derived.Test.YtjkelipglcnpmaaF32
import Derived.Test.YtjkelipglcnpmaaF51
namespace Go.Proofs
open Go.VM
/-! ### burrow/burrowlaw02.LimbsSquares -/
noncomputable def f7.c : Code := bodyOf Try.f7
def f7.lp (_ : Nat) : Nat → Option (Hint × Summ) := fun _ => none
noncomputable def f7.tab (K : Nat) : List (Nat × Entry) := [(36, f36.E K), (34, f34.E K), (32, f32.E K), (51, f51.E K)]
theorem f7.tabOK (K : Nat) : SpecOK Try.prog (tabSp (f7.tab K)) := tab_ok ((tab_cons (f36.ok K) (tab_cons (f34.ok K) (tab_cons (f32.ok K) (tab_cons (f51.ok K) tab_nil)))))
theorem f7.loops (K : Nat) : LoopsOK Try.prog 59 0 (f7.lp K) f7.c := loops_ok (by
  have h : loopsIn (f7.lp K) f7.c = [] := by kernel_rfl
  rw [h]; simp)
def f7.T (K : Nat) (a0 : List Int) (a1 : List Int) : Option (Bool) :=
  (f36.F K (a0, a0)).bind fun y1 =>
  (f36.F K (a1, a1)).bind fun y2 =>
  (f34.F K (y1.1, y2.1)).bind fun y3 =>
  (f32.F K (a0, a1)).bind fun y4 =>
  (f34.F K (a0, a1)).bind fun y5 =>
  (f36.F K (y4.1, y5.1)).bind fun y6 =>
  (f51.F K ()).bind fun y7 =>
  bif y7 then
    some (eqL 4 y3.1 y6.1 && true)
  else
    some false
def f7.F (K : Nat) (x : List Int × List Int) : Option (Bool) := f7.T K x.1 x.2
def f7.mk (y : Bool) : VV := .bool y
def f7.inA : List VV → Option (List Int × List Int)
  | [.agg [.ints .u64 4 a0], .agg [.ints .u64 4 a1]] => some (a0, a1)
  | _ => none
def f7.shp (x : List Int × List Int) : List VV := [.agg [.ints .u64 4 x.1], .agg [.ints .u64 4 x.2]]
def f7.inR : VV → Option (Bool)
  | .bool y => some y
  | _ => none
noncomputable def f7.E (K : Nat) : Entry := pureE f7.inA (f7.F K) f7.mk
theorem f7.eq (K : Nat) (x : List Int × List Int) : f7.F K x = xrun (getA tys) (tabSp (f7.tab K)) Try.f7.ntmps 0 (f7.lp K) 400 f7.c ⟨initL 0 (f7.shp x), [], 0⟩ (contF (getA tys) Try.f7.results.toList fun v _ => f7.inR v) := by kernel_rfl
theorem f7.ok (K : Nat) : EntryOK Try.prog 7 (f7.E K) :=
  pure_ok mix tys_ok (f7.tabOK K) Try.func7 (by kernel_rfl : Try.f7.body = some f7.c) (by kernel_rfl) (f7.loops K) (shp := f7.shp) (fuel := 400)
    (by intro vs x h; unfold f7.inA at h; split at h <;> simp at h; subst h; rfl) (by intro v y h; unfold f7.inR at h; split at h <;> simp at h; subst h; exact ⟨rfl, rfl⟩)
    (by intro x; exact ⟨Nat.le_of_ble_eq_true rfl, rfl⟩) (f7.eq K)
end Go.Proofs
