/- One Go function: a Lean function with the same answers, and the proof that the call comes to them. -/
import Derived.Test.YtjkelipglcnpmaaTy
import Derived.Test.YtjkelipglcnpmaaF34
import Derived.Test.YtjkelipglcnpmaaF32
import Derived.Test.YtjkelipglcnpmaaF44
import Derived.Test.YtjkelipglcnpmaaF51
import Derived.Test.YtjkelipglcnpmaaF50
namespace Go.Proofs
open Go.VM
/-! ### burrow/burrowlaw02.LimbsApart -/
noncomputable def f6.c : Code := bodyOf Try.f6
def f6.lp (_ : Nat) : Nat → Option (Hint × Summ) := fun _ => none
noncomputable def f6.tab (K : Nat) : List (Nat × Entry) := [(34, f34.E K), (32, f32.E K), (44, f44.E K), (51, f51.E K), (50, f50.E K)]
theorem f6.tabOK (K : Nat) : SpecOK Try.prog (tabSp (f6.tab K)) := tab_ok ((tab_cons (f34.ok K) (tab_cons (f32.ok K) (tab_cons (f44.ok K) (tab_cons (f51.ok K) (tab_cons (f50.ok K) tab_nil))))))
theorem f6.loops (K : Nat) : LoopsOK Try.prog 88 0 (f6.lp K) f6.c := loops_ok (by
  have h : loopsIn (f6.lp K) f6.c = [] := by kernel_rfl
  rw [h]; simp)
def f6.T (K : Nat) (a0 : List Int) (a1 : List Int) : Option (Bool) :=
  (f34.F K (a0, a1)).bind fun y1 =>
  (f34.F K (a1, a0)).bind fun y2 =>
  (f32.F K (y1.1, y2.1)).bind fun y3 =>
  (f44.F K (a0, a1)).bind fun y4 =>
  bif (eqL 4 a0 a1 && true) then
    (f51.F K ()).bind fun y6 =>
    bif y6 then
      bif (y4 == 0) then
        bif (y1.2 == 0) then
          bif (y2.2 == 0) then
            (f50.F K ()).bind fun y7 =>
            some (eqL 4 y1.1 y7 && true)
          else
            some false
        else
          some false
      else
        some false
    else
      some false
  else
    (f51.F K ()).bind fun y9 =>
    bif y9 then
      (f50.F K ()).bind fun y10 =>
      bif (eqL 4 y3.1 y10 && true) then
        bif ((IntKind.wrap .u64 (y1.2 + y2.2)) == 1) then
          bif ((y4 == (-1)) == (y1.2 == 1)) then
            bif ((y4 == 1) == (y2.2 == 1)) then
              (f44.F K (a1, a0)).bind fun y16 =>
              some (y16 == (IntKind.wrap .i64 (0 - y4)))
            else
              some false
          else
            some false
        else
          some false
      else
        some false
    else
      some false
def f6.F (K : Nat) (x : List Int × List Int) : Option (Bool) := f6.T K x.1 x.2
def f6.mk (y : Bool) : VV := .bool y
def f6.inA : List VV → Option (List Int × List Int)
  | [.agg [.ints .u64 4 a0], .agg [.ints .u64 4 a1]] => some (a0, a1)
  | _ => none
def f6.shp (x : List Int × List Int) : List VV := [.agg [.ints .u64 4 x.1], .agg [.ints .u64 4 x.2]]
def f6.inR : VV → Option (Bool)
  | .bool y => some y
  | _ => none
noncomputable def f6.E (K : Nat) : Entry := pureE f6.inA (f6.F K) f6.mk
theorem f6.eq (K : Nat) (x : List Int × List Int) : f6.F K x = xrun (getA tys) (tabSp (f6.tab K)) Try.f6.ntmps 0 (f6.lp K) 400 f6.c ⟨initL 0 (f6.shp x), [], 0⟩ (contF (getA tys) Try.f6.results.toList fun v _ => f6.inR v) := by kernel_rfl
theorem f6.ok (K : Nat) : EntryOK Try.prog 6 (f6.E K) :=
  pure_ok mix tys_ok (f6.tabOK K) Try.func6 (by kernel_rfl : Try.f6.body = some f6.c) (by kernel_rfl) (f6.loops K) (shp := f6.shp) (fuel := 400)
    (by intro vs x h; unfold f6.inA at h; split at h <;> simp at h; subst h; rfl) (by intro v y h; unfold f6.inR at h; split at h <;> simp at h; subst h; exact ⟨rfl, rfl⟩)
    (by intro x; exact ⟨Nat.le_of_ble_eq_true rfl, rfl⟩) (f6.eq K)
end Go.Proofs
