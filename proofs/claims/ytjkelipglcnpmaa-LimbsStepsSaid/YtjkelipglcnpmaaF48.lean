/- One Go function: a Lean function with the same answers, and the proof that the call comes to them. -/
import Derived.Test.YtjkelipglcnpmaaTy
namespace Go.Proofs
open Go.VM
/-! ### burrow/burrowlaw02.turned -/
noncomputable def f48.c : Code := bodyOf Try.f48
def f48.lp (_ : Nat) : Nat → Option (Hint × Summ) := fun _ => none
noncomputable def f48.tab (_K : Nat) : List (Nat × Entry) := []
theorem f48.tabOK (K : Nat) : SpecOK Try.prog (tabSp (f48.tab K)) := tab_ok tab_nil
theorem f48.loops (K : Nat) : LoopsOK Try.prog 15 0 (f48.lp K) f48.c := loops_ok (by
  have h : loopsIn (f48.lp K) f48.c = [] := by kernel_rfl
  rw [h]; simp)
def f48.T (_K : Nat) (a0 : List Int) : Option (List Int) :=
  let v3 := setD a0 0 (bits .xor .u64 18446744073709551615 (List.getD a0 0 0))
  let v6 := setD v3 1 (bits .xor .u64 18446744073709551615 (List.getD v3 1 0))
  let v9 := setD v6 2 (bits .xor .u64 18446744073709551615 (List.getD v6 2 0))
  some (setD v9 3 (bits .xor .u64 18446744073709551615 (List.getD v9 3 0)))
def f48.F (K : Nat) (x : List Int) : Option (List Int) := f48.T K x
def f48.mk (y : List Int) : VV := .agg [.ints .u64 4 y]
def f48.inA : List VV → Option (List Int)
  | [.agg [.ints .u64 4 a0]] => some a0
  | _ => none
def f48.shp (x : List Int) : List VV := [.agg [.ints .u64 4 x]]
def f48.inR : VV → Option (List Int)
  | .agg [.ints .u64 4 y] => some y
  | _ => none
noncomputable def f48.E (K : Nat) : Entry := pureE f48.inA (f48.F K) f48.mk
theorem f48.eq (K : Nat) (x : List Int) : f48.F K x = xrun (getA tys) (tabSp (f48.tab K)) Try.f48.ntmps 0 (f48.lp K) 400 f48.c ⟨initL 0 (f48.shp x), [], 0⟩ (contF (getA tys) Try.f48.results.toList fun v _ => f48.inR v) := by kernel_rfl
theorem f48.ok (K : Nat) : EntryOK Try.prog 48 (f48.E K) :=
  pure_ok mix tys_ok (f48.tabOK K) Try.func48 (by kernel_rfl : Try.f48.body = some f48.c) (by kernel_rfl) (f48.loops K) (shp := f48.shp) (fuel := 400)
    (by intro vs x h; unfold f48.inA at h; split at h <;> simp at h; subst h; rfl) (by intro v y h; unfold f48.inR at h; split at h <;> simp at h; subst h; exact ⟨rfl, rfl⟩)
    (by intro x; exact ⟨Nat.le_of_ble_eq_true rfl, rfl⟩) (f48.eq K)
end Go.Proofs
