/- Go functions: for each a Lean function with the same answers, and the proof that the call comes to them, with no condition. -/
import Derived.Test.YtjkelipglcnpmaaFl
import Derived.Test.YtjkelipglcnpmaaFd
namespace Go.Proofs
open Go.VM
noncomputable def f125.c : Code := bodyOf Try.f125
def f125.lp (_ : Nat) : Nat → Option (Hint × Summ) := fun _ => none
noncomputable def f125.tab (_K : Nat) : List (Nat × Entry) := []
theorem f125.tabOK (K : Nat) : SpecOK Try.prog (tabSp (f125.tab K)) := tab_ok ( tab_nil)
theorem f125.loops (K : Nat) : LoopsOK Try.prog 51 0 (f125.lp K) f125.c := loops_ok (by
  have h : loopsIn (f125.lp K) f125.c = [] := by kernel_rfl
  rw [h]; simp)
def f125.T (_K : Nat) (a0 : Int) (a1 : Int) : Option (Int × Int) :=
  let v1 := bits .and .u64 a0 4294967295
  let v2 := Int.fdiv a0 (2 ^ 32)
  let v3 := bits .and .u64 a1 4294967295
  let v4 := Int.fdiv a1 (2 ^ 32)
  let v8 := IntKind.wrap .u64 ((IntKind.wrap .u64 (v2 * v3)) + (Int.fdiv (IntKind.wrap .u64 (v1 * v3)) (2 ^ 32)))
  some ((IntKind.wrap .u64 ((IntKind.wrap .u64 ((IntKind.wrap .u64 (v2 * v4)) + (Int.fdiv v8 (2 ^ 32)))) + (Int.fdiv (IntKind.wrap .u64 ((bits .and .u64 v8 4294967295) + (IntKind.wrap .u64 (v1 * v4)))) (2 ^ 32)))), (IntKind.wrap .u64 (a0 * a1)))
def f125.F (K : Nat) (x : Int × Int) : Option (Int × Int) := f125.T K x.1 x.2
def f125.av (x : Int × Int) : List VV := [.int .u64 x.1, .int .u64 x.2]
def f125.bl (_x : Int × Int) : List (Nat × Blk) := []
def f125.inA : VS → Option (Int × Int)
  | ⟨[(0, .int .u64 a0), (1, .int .u64 a1)], [], 0⟩ => some (a0, a1)
  | _ => none
def f125.o0 (y : Int × Int) : VS := ⟨[(0, .tup [.int .u64 y.1, .int .u64 y.2])], [], 0⟩
def f125.des : ∀ α : Type, (Int × Int) → (VS → Option α) → Option α := (dv1 f125.o0)
def f125.out : Int × Int → VS := f125.o0
def f125.inR : VS → Option (Int × Int)
  | ⟨[(0, .tup [.int .u64 y_0, .int .u64 y_1])], [], 0⟩ => some (y_0, y_1)
  | _ => none
noncomputable def f125.E (K : Nat) : Entry := genE 0 f125.inA (f125.F K) f125.des
theorem f125.eq (K : Nat) (x : Int × Int) : f125.F K x = xrun (getA tys) (tabSp (f125.tab K)) Try.f125.ntmps 0 (f125.lp K) 400 f125.c ⟨initL 0 (f125.av x), f125.bl x, 0⟩ (contF (getA tys) 0 Try.f125.results.toList f125.inR) := by kernel_rfl
theorem f125.ok (K : Nat) : EntryOK Try.prog 125 (f125.E K) :=
  gen_ok mix tys_ok (f125.tabOK K) Try.func125 (by kernel_rfl : Try.f125.body = some f125.c) (by kernel_rfl) (f125.loops K) (av := f125.av) (bl := f125.bl) (out := f125.out) (fuel := 400)
    (by intro s x h; unfold f125.inA at h; split at h <;> simp at h; subst h; rfl) (fun _ => Nat.le_of_ble_eq_true rfl)
    (by intro s y h; unfold f125.inR at h; split at h <;> simp at h <;> subst h <;> rfl) (fun _ _ _ => rfl) (f125.eq K)
end Go.Proofs

namespace Go.Proofs
open Go.VM
noncomputable def f135.c : Code := bodyOf Try.f135
def f135.lp (_ : Nat) : Nat → Option (Hint × Summ) := fun _ => none
noncomputable def f135.tab (K : Nat) : List (Nat × Entry) := [(100, (f100.E K))]
theorem f135.tabOK (K : Nat) : SpecOK Try.prog (tabSp (f135.tab K)) := tab_ok ((tab_cons (f100.ok K) tab_nil))
theorem f135.loops (K : Nat) : LoopsOK Try.prog 19 0 (f135.lp K) f135.c := loops_ok (by
  have h : loopsIn (f135.lp K) f135.c = [] := by kernel_rfl
  rw [h]; simp)
def f135.T (K : Nat) (a0 : Int) (a1 : Int) (a2 : Int) : Option (Int) :=
  bif decide (a2 ≠ 0) then
    (f100.F K ((Int.tmod a0 a2), a1, a2)).bind fun y2 =>
    some y2.2
  else
    none
def f135.F (K : Nat) (x : Int × Int × Int) : Option (Int) := f135.T K x.1 x.2.1 x.2.2
def f135.av (x : Int × Int × Int) : List VV := [.int .u64 x.1, .int .u64 x.2.1, .int .u64 x.2.2]
def f135.bl (_x : Int × Int × Int) : List (Nat × Blk) := []
def f135.inA : VS → Option (Int × Int × Int)
  | ⟨[(0, .int .u64 a0), (1, .int .u64 a1), (2, .int .u64 a2)], [], 0⟩ => some (a0, a1, a2)
  | _ => none
def f135.o0 (y : Int) : VS := ⟨[(0, .int .u64 y)], [], 0⟩
def f135.des : ∀ α : Type, Int → (VS → Option α) → Option α := (dv1 f135.o0)
def f135.out : Int → VS := f135.o0
def f135.inR : VS → Option (Int)
  | ⟨[(0, .int .u64 y)], [], 0⟩ => some y
  | _ => none
noncomputable def f135.E (K : Nat) : Entry := genE 0 f135.inA (f135.F K) f135.des
theorem f135.eq (K : Nat) (x : Int × Int × Int) : f135.F K x = xrun (getA tys) (tabSp (f135.tab K)) Try.f135.ntmps 0 (f135.lp K) 400 f135.c ⟨initL 0 (f135.av x), f135.bl x, 0⟩ (contF (getA tys) 0 Try.f135.results.toList f135.inR) := by kernel_rfl
theorem f135.ok (K : Nat) : EntryOK Try.prog 135 (f135.E K) :=
  gen_ok mix tys_ok (f135.tabOK K) Try.func135 (by kernel_rfl : Try.f135.body = some f135.c) (by kernel_rfl) (f135.loops K) (av := f135.av) (bl := f135.bl) (out := f135.out) (fuel := 400)
    (by intro s x h; unfold f135.inA at h; split at h <;> simp at h; subst h; rfl) (fun _ => Nat.le_of_ble_eq_true rfl)
    (by intro s y h; unfold f135.inR at h; split at h <;> simp at h <;> subst h <;> rfl) (fun _ _ _ => rfl) (f135.eq K)
end Go.Proofs

namespace Go.Proofs
open Go.VM
end Go.Proofs

namespace Go.Proofs
open Go.VM
end Go.Proofs

namespace Go.Proofs
open Go.VM
end Go.Proofs
