/- One Go function: a Lean function with the same answers, and the proof that the call comes to them. -/
import Derived.Test.YtjkelipglcnpmaaTy
import Derived.Test.YtjkelipglcnpmaaF38
import Derived.Test.YtjkelipglcnpmaaF32
import Derived.Test.YtjkelipglcnpmaaF34
import Derived.Test.YtjkelipglcnpmaaF51
import Derived.Test.YtjkelipglcnpmaaF40
import Derived.Test.YtjkelipglcnpmaaF42
namespace Go.Proofs
open Go.VM
/-! ### burrow/burrowlaw02.LimbsMoves -/
noncomputable def f9.c : Code := bodyOf Try.f9
def f9.lp (_ : Nat) : Nat → Option (Hint × Summ) := fun _ => none
noncomputable def f9.tab (K : Nat) : List (Nat × Entry) := [(38, f38.E K), (32, f32.E K), (34, f34.E K), (51, f51.E K), (40, f40.E K), (42, f42.E K)]
theorem f9.tabOK (K : Nat) : SpecOK Try.prog (tabSp (f9.tab K)) := tab_ok ((tab_cons (f38.ok K) (tab_cons (f32.ok K) (tab_cons (f34.ok K) (tab_cons (f51.ok K) (tab_cons (f40.ok K) (tab_cons (f42.ok K) tab_nil)))))))
theorem f9.loops (K : Nat) : LoopsOK Try.prog 106 0 (f9.lp K) f9.c := loops_ok (by
  have h : loopsIn (f9.lp K) f9.c = [] := by kernel_rfl
  rw [h]; simp)
def f9.T (K : Nat) (a0 : List Int) (a1 : Int) (a2 : Int) : Option (Bool) :=
  (f38.F K (a0, (IntKind.wrap .i64 a1))).bind fun y2 =>
  (f38.F K (y2, (IntKind.wrap .i64 a2))).bind fun y4 =>
  (f38.F K (a0, (IntKind.wrap .i64 (0 - (IntKind.wrap .i64 a1))))).bind fun y7 =>
  (f38.F K (y7, (IntKind.wrap .i64 (0 - (IntKind.wrap .i64 a2))))).bind fun y10 =>
  (f32.F K (a0, a0)).bind fun y11 =>
  (f38.F K (a0, (IntKind.wrap .i64 (0 - (IntKind.wrap .i64 a1))))).bind fun y14 =>
  (f38.F K (y14, (IntKind.wrap .i64 a1))).bind fun y16 =>
  (f34.F K (a0, y16)).bind fun y17 =>
  (f51.F K ()).bind fun y18 =>
  bif y18 then
    (f38.F K (a0, (IntKind.wrap .i64 ((IntKind.wrap .i64 a1) + (IntKind.wrap .i64 a2))))).bind fun y22 =>
    bif (eqL 4 y4 y22 && true) then
      (f38.F K (a0, (IntKind.wrap .i64 ((IntKind.wrap .i64 (0 - (IntKind.wrap .i64 a1))) - (IntKind.wrap .i64 a2))))).bind fun y28 =>
      bif (eqL 4 y10 y28 && true) then
        (f38.F K (a0, 1)).bind fun y30 =>
        bif (eqL 4 y11.1 y30 && true) then
          (f40.F K (a0, 255)).bind fun y32 =>
          bif (y11.2 == y32) then
            (f42.F K y17.1).bind fun y34 =>
            bif (decide (y34 ≤ (IntKind.wrap .i64 a1))) then
              (f38.F K (a0, (IntKind.wrap .i64 (256 - (IntKind.wrap .i64 a1))))).bind fun y39 =>
              (f38.F K (y39, (IntKind.wrap .i64 ((IntKind.wrap .i64 a1) - 256)))).bind fun y42 =>
              some (eqL 4 y17.1 y42 && true)
            else
              some false
          else
            some false
        else
          some false
      else
        some false
    else
      some false
  else
    some false
def f9.F (K : Nat) (x : List Int × Int × Int) : Option (Bool) := f9.T K x.1 x.2.1 x.2.2
def f9.mk (y : Bool) : VV := .bool y
def f9.inA : List VV → Option (List Int × Int × Int)
  | [.agg [.ints .u64 4 a0], .int .u8 a1, .int .u8 a2] => some (a0, a1, a2)
  | _ => none
def f9.shp (x : List Int × Int × Int) : List VV := [.agg [.ints .u64 4 x.1], .int .u8 x.2.1, .int .u8 x.2.2]
def f9.inR : VV → Option (Bool)
  | .bool y => some y
  | _ => none
noncomputable def f9.E (K : Nat) : Entry := pureE f9.inA (f9.F K) f9.mk
theorem f9.eq (K : Nat) (x : List Int × Int × Int) : f9.F K x = xrun (getA tys) (tabSp (f9.tab K)) Try.f9.ntmps 0 (f9.lp K) 400 f9.c ⟨initL 0 (f9.shp x), [], 0⟩ (contF (getA tys) Try.f9.results.toList fun v _ => f9.inR v) := by kernel_rfl
theorem f9.ok (K : Nat) : EntryOK Try.prog 9 (f9.E K) :=
  pure_ok mix tys_ok (f9.tabOK K) Try.func9 (by kernel_rfl : Try.f9.body = some f9.c) (by kernel_rfl) (f9.loops K) (shp := f9.shp) (fuel := 400)
    (by intro vs x h; unfold f9.inA at h; split at h <;> simp at h; subst h; rfl) (by intro v y h; unfold f9.inR at h; split at h <;> simp at h; subst h; exact ⟨rfl, rfl⟩)
    (by intro x; exact ⟨Nat.le_of_ble_eq_true rfl, rfl⟩) (f9.eq K)
end Go.Proofs
