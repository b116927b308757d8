/- One Go function: a Lean function with the same answers, and the proof that the call comes to them. -/
import Derived.Test.YtjkelipglcnpmaaTy
import Derived.Test.YtjkelipglcnpmaaF48
import Derived.Test.YtjkelipglcnpmaaF32
import Derived.Test.YtjkelipglcnpmaaF49
import Derived.Test.YtjkelipglcnpmaaF34
import Derived.Test.YtjkelipglcnpmaaF50
import Derived.Test.YtjkelipglcnpmaaF46
import Derived.Test.YtjkelipglcnpmaaF51
namespace Go.Proofs
open Go.VM
/-! ### burrow/burrowlaw02.LimbsTurned -/
noncomputable def f4.c : Code := bodyOf Try.f4
def f4.lp (_ : Nat) : Nat → Option (Hint × Summ) := fun _ => none
noncomputable def f4.tab (K : Nat) : List (Nat × Entry) := [(48, f48.E K), (32, f32.E K), (49, f49.E K), (34, f34.E K), (50, f50.E K), (46, f46.E K), (51, f51.E K)]
theorem f4.tabOK (K : Nat) : SpecOK Try.prog (tabSp (f4.tab K)) := tab_ok ((tab_cons (f48.ok K) (tab_cons (f32.ok K) (tab_cons (f49.ok K) (tab_cons (f34.ok K) (tab_cons (f50.ok K) (tab_cons (f46.ok K) (tab_cons (f51.ok K) tab_nil))))))))
theorem f4.loops (K : Nat) : LoopsOK Try.prog 77 0 (f4.lp K) f4.c := loops_ok (by
  have h : loopsIn (f4.lp K) f4.c = [] := by kernel_rfl
  rw [h]; simp)
def f4.T (K : Nat) (a0 : List Int) : Option (Bool) :=
  (f48.F K a0).bind fun y1 =>
  (f32.F K (a0, y1)).bind fun y2 =>
  (f49.F K ()).bind fun y3 =>
  (f34.F K (y3, a0)).bind fun y4 =>
  (f50.F K ()).bind fun y5 =>
  (f34.F K (y5, a0)).bind fun y6 =>
  (f46.F K 1).bind fun y7 =>
  (f32.F K (y1, y7)).bind fun y8 =>
  (f50.F K ()).bind fun y9 =>
  bif (eqL 4 a0 y9 && true) then
    (f51.F K ()).bind fun y11 =>
    bif y11 then
      (f49.F K ()).bind fun y12 =>
      bif (eqL 4 y2.1 y12 && true) then
        bif (y2.2 == 0) then
          bif (eqL 4 y4.1 y1 && true) then
            bif (y4.2 == 0) then
              bif (eqL 4 y6.1 y8.1 && true) then
                bif (y6.2 == 0) then
                  some (y8.2 == 1)
                else
                  some false
              else
                some false
            else
              some false
          else
            some false
        else
          some false
      else
        some false
    else
      some false
  else
    (f51.F K ()).bind fun y16 =>
    bif y16 then
      (f49.F K ()).bind fun y17 =>
      bif (eqL 4 y2.1 y17 && true) then
        bif (y2.2 == 0) then
          bif (eqL 4 y4.1 y1 && true) then
            bif (y4.2 == 0) then
              bif (eqL 4 y6.1 y8.1 && true) then
                bif (y6.2 == 1) then
                  some (y8.2 == 0)
                else
                  some false
              else
                some false
            else
              some false
          else
            some false
        else
          some false
      else
        some false
    else
      some false
def f4.F (K : Nat) (x : List Int) : Option (Bool) := f4.T K x
def f4.mk (y : Bool) : VV := .bool y
def f4.inA : List VV → Option (List Int)
  | [.agg [.ints .u64 4 a0]] => some a0
  | _ => none
def f4.shp (x : List Int) : List VV := [.agg [.ints .u64 4 x]]
def f4.inR : VV → Option (Bool)
  | .bool y => some y
  | _ => none
noncomputable def f4.E (K : Nat) : Entry := pureE f4.inA (f4.F K) f4.mk
theorem f4.eq (K : Nat) (x : List Int) : f4.F K x = xrun (getA tys) (tabSp (f4.tab K)) Try.f4.ntmps 0 (f4.lp K) 400 f4.c ⟨initL 0 (f4.shp x), [], 0⟩ (contF (getA tys) Try.f4.results.toList fun v _ => f4.inR v) := by kernel_rfl
theorem f4.ok (K : Nat) : EntryOK Try.prog 4 (f4.E K) :=
  pure_ok mix tys_ok (f4.tabOK K) Try.func4 (by kernel_rfl : Try.f4.body = some f4.c) (by kernel_rfl) (f4.loops K) (shp := f4.shp) (fuel := 400)
    (by intro vs x h; unfold f4.inA at h; split at h <;> simp at h; subst h; rfl) (by intro v y h; unfold f4.inR at h; split at h <;> simp at h; subst h; exact ⟨rfl, rfl⟩)
    (by intro x; exact ⟨Nat.le_of_ble_eq_true rfl, rfl⟩) (f4.eq K)
end Go.Proofs
