/- One Go function: a Lean function with the same answers, and the proof that the call comes to them. -/
import Derived.Test.YtjkelipglcnpmaaTy
import Derived.Test.YtjkelipglcnpmaaF92
namespace Go.Proofs
open Go.VM
/-! ### burrow/limbs.Bit -/
noncomputable def f40.c : Code := bodyOf Try.f40
def f40.lp (_ : Nat) : Nat → Option (Hint × Summ) := fun _ => none
noncomputable def f40.tab (K : Nat) : List (Nat × Entry) := [(92, f92.E K)]
theorem f40.tabOK (K : Nat) : SpecOK Try.prog (tabSp (f40.tab K)) := tab_ok ((tab_cons (f92.ok K) tab_nil))
theorem f40.loops (K : Nat) : LoopsOK Try.prog 17 0 (f40.lp K) f40.c := loops_ok (by
  have h : loopsIn (f40.lp K) f40.c = [] := by kernel_rfl
  rw [h]; simp)
def f40.T (K : Nat) (a0 : List Int) (a1 : Int) : Option (Int) :=
  bif (decide ((IntKind.wrap .u64 a1) ≥ 256)) then
    some (0)
  else
    (f92.F K a0).bind fun y3 =>
    let v4 := IntKind.wrap .i64 (Int.tdiv a1 32)
    bif decide (0 ≤ v4 ∧ v4 < 8) then
      let v6 := Int.tmod a1 32
      bif decide (0 ≤ v6) then
        some (bits .and .u64 (shiftI .shr .u64 (List.getD y3 (Int.toNat v4) 0) v6) 1)
      else
        none
    else
      none
def f40.F (K : Nat) (x : List Int × Int) : Option (Int) := f40.T K x.1 x.2
def f40.mk (y : Int) : VV := .int .u64 y
def f40.inA : List VV → Option (List Int × Int)
  | [.agg [.ints .u64 4 a0], .int .i64 a1] => some (a0, a1)
  | _ => none
def f40.shp (x : List Int × Int) : List VV := [.agg [.ints .u64 4 x.1], .int .i64 x.2]
def f40.inR : VV → Option (Int)
  | .int .u64 y => some y
  | _ => none
noncomputable def f40.E (K : Nat) : Entry := pureE f40.inA (f40.F K) f40.mk
theorem f40.eq (K : Nat) (x : List Int × Int) : f40.F K x = xrun (getA tys) (tabSp (f40.tab K)) Try.f40.ntmps 0 (f40.lp K) 400 f40.c ⟨initL 0 (f40.shp x), [], 0⟩ (contF (getA tys) Try.f40.results.toList fun v _ => f40.inR v) := by kernel_rfl
theorem f40.ok (K : Nat) : EntryOK Try.prog 40 (f40.E K) :=
  pure_ok mix tys_ok (f40.tabOK K) Try.func40 (by kernel_rfl : Try.f40.body = some f40.c) (by kernel_rfl) (f40.loops K) (shp := f40.shp) (fuel := 400)
    (by intro vs x h; unfold f40.inA at h; split at h <;> simp at h; subst h; rfl) (by intro v y h; unfold f40.inR at h; split at h <;> simp at h; subst h; exact ⟨rfl, rfl⟩)
    (by intro x; exact ⟨Nat.le_of_ble_eq_true rfl, rfl⟩) (f40.eq K)
end Go.Proofs
