/- One Go function: a Lean function with the same answers, and the proof that the call comes to them. -/
import Derived.Test.YtjkelipglcnpmaaTy
import Derived.Test.YtjkelipglcnpmaaF49
import Derived.Test.YtjkelipglcnpmaaF46
import Derived.Test.YtjkelipglcnpmaaF32
import Derived.Test.YtjkelipglcnpmaaF50
import Derived.Test.YtjkelipglcnpmaaF34
import Derived.Test.YtjkelipglcnpmaaF36
import Derived.Test.YtjkelipglcnpmaaF38
import Derived.Test.YtjkelipglcnpmaaF42
import Derived.Test.YtjkelipglcnpmaaF40
import Derived.Test.YtjkelipglcnpmaaF44
namespace Go.Proofs
open Go.VM
/-! ### burrow/burrowlaw02.alive -/
noncomputable def f51.c : Code := bodyOf Try.f51
def f51.lp (_ : Nat) : Nat → Option (Hint × Summ) := fun _ => none
noncomputable def f51.tab (K : Nat) : List (Nat × Entry) := [(49, f49.E K), (46, f46.E K), (32, f32.E K), (50, f50.E K), (34, f34.E K), (36, f36.E K), (38, f38.E K), (42, f42.E K), (40, f40.E K), (44, f44.E K)]
theorem f51.tabOK (K : Nat) : SpecOK Try.prog (tabSp (f51.tab K)) := tab_ok ((tab_cons (f49.ok K) (tab_cons (f46.ok K) (tab_cons (f32.ok K) (tab_cons (f50.ok K) (tab_cons (f34.ok K) (tab_cons (f36.ok K) (tab_cons (f38.ok K) (tab_cons (f42.ok K) (tab_cons (f40.ok K) (tab_cons (f44.ok K) tab_nil)))))))))))
theorem f51.loops (K : Nat) : LoopsOK Try.prog 89 0 (f51.lp K) f51.c := loops_ok (by
  have h : loopsIn (f51.lp K) f51.c = [] := by kernel_rfl
  rw [h]; simp)
def f51.T (K : Nat)  : Option (Bool) :=
  (f49.F K ()).bind fun y1 =>
  (f46.F K 1).bind fun y2 =>
  (f32.F K (y1, y2)).bind fun y3 =>
  (f50.F K ()).bind fun y4 =>
  (f46.F K 1).bind fun y5 =>
  (f34.F K (y4, y5)).bind fun y6 =>
  (f36.F K ([0, 0, 1, 0], [0, 0, 1, 0])).bind fun y7 =>
  (f50.F K ()).bind fun y8 =>
  bif (eqL 4 y3.1 y8 && true) then
    bif (y3.2 == 1) then
      (f49.F K ()).bind fun y10 =>
      bif (eqL 4 y6.1 y10 && true) then
        bif (y6.2 == 1) then
          (f50.F K ()).bind fun y12 =>
          bif (eqL 4 y7.1 y12 && true) then
            (f46.F K 1).bind fun y14 =>
            bif (eqL 4 y7.2 y14 && true) then
              (f46.F K 5).bind fun y16 =>
              (f38.F K (y16, 64)).bind fun y17 =>
              bif (eqL 4 y17 [0, 5, 0, 0] && true) then
                (f38.F K ([0, 0, 0, 9223372036854775808], (-255))).bind fun y19 =>
                (f46.F K 1).bind fun y20 =>
                bif (eqL 4 y19 y20 && true) then
                  (f50.F K ()).bind fun y22 =>
                  (f42.F K y22).bind fun y23 =>
                  bif (y23 == 0) then
                    (f42.F K [0, 1, 0, 0]).bind fun y24 =>
                    bif (y24 == 65) then
                      (f46.F K 4).bind fun y25 =>
                      (f40.F K (y25, 2)).bind fun y26 =>
                      bif (y26 == 1) then
                        (f46.F K 4).bind fun y27 =>
                        (f40.F K (y27, 256)).bind fun y28 =>
                        bif (y28 == 0) then
                          (f46.F K 3).bind fun y29 =>
                          (f46.F K 5).bind fun y30 =>
                          (f44.F K (y29, y30)).bind fun y31 =>
                          some (y31 == (-1))
                        else
                          some false
                      else
                        some false
                    else
                      some false
                  else
                    some false
                else
                  some false
              else
                some false
            else
              some false
          else
            some false
        else
          some false
      else
        some false
    else
      some false
  else
    some false
def f51.F (K : Nat) (_x : Unit) : Option (Bool) := f51.T K 
def f51.mk (y : Bool) : VV := .bool y
def f51.inA : List VV → Option (Unit)
  | [] => some ()
  | _ => none
def f51.shp (_x : Unit) : List VV := []
def f51.inR : VV → Option (Bool)
  | .bool y => some y
  | _ => none
noncomputable def f51.E (K : Nat) : Entry := pureE f51.inA (f51.F K) f51.mk
theorem f51.eq (K : Nat) (x : Unit) : f51.F K x = xrun (getA tys) (tabSp (f51.tab K)) Try.f51.ntmps 0 (f51.lp K) 400 f51.c ⟨initL 0 (f51.shp x), [], 0⟩ (contF (getA tys) Try.f51.results.toList fun v _ => f51.inR v) := by kernel_rfl
theorem f51.ok (K : Nat) : EntryOK Try.prog 51 (f51.E K) :=
  pure_ok mix tys_ok (f51.tabOK K) Try.func51 (by kernel_rfl : Try.f51.body = some f51.c) (by kernel_rfl) (f51.loops K) (shp := f51.shp) (fuel := 400)
    (by intro vs x h; unfold f51.inA at h; split at h <;> simp at h; rfl) (by intro v y h; unfold f51.inR at h; split at h <;> simp at h; subst h; exact ⟨rfl, rfl⟩)
    (by intro x; exact ⟨Nat.le_of_ble_eq_true rfl, rfl⟩) (f51.eq K)
end Go.Proofs
