/- Go functions: for each a Lean function with the same answers, and the proof that the call comes to them, with no condition. -/
import Derived.Test.YtjkelipglcnpmaaFl
import Derived.Test.YtjkelipglcnpmaaFy
import Derived.Test.YtjkelipglcnpmaaFg
namespace Go.Proofs
open Go.VM
/-! ### burrow/burrowref06.May -/
noncomputable def f114.c : Code := bodyOf Try.f114
def f114.lp (_ : Nat) : Nat → Option (Hint × Summ) := fun _ => none
noncomputable def f114.tab (K : Nat) : List (Nat × Entry) := [(45, (f45.E K))]
theorem f114.tabOK (K : Nat) : SpecOK Try.prog (tabSp (f114.tab K)) := tab_ok ((tab_cons (f45.ok K) tab_nil))
theorem f114.loops (K : Nat) : LoopsOK Try.prog 22 0 (f114.lp K) f114.c := loops_ok (by
  have h : loopsIn (f114.lp K) f114.c = [] := by kernel_rfl
  rw [h]; simp)
def f114.T (K : Nat) (a0_0 : List Int) (_a0_1 : List Int) (_a0_2 : List Int) (a1 : List Int) : Option (Bool) :=
  (f45.F K (a0_0, [1, 0, 0, 0])).bind fun y1 =>
  bif (decide (y1 > 0)) then
    bif (!(eqL 4 a1 [0, 0, 0, 0] && true)) then
      (f45.F K (a1, a0_0)).bind fun y4 =>
      some (decide (y4 < 0))
    else
      some false
  else
    some false
def f114.F (K : Nat) (x : List Int × List Int × List Int × List Int) : Option (Bool) := f114.T K x.1 x.2.1 x.2.2.1 x.2.2.2
def f114.av (x : List Int × List Int × List Int × List Int) : List VV := [.agg [.ints .u64 4 x.1, .ints .u64 4 x.2.1, .ints .u64 4 x.2.2.1], .agg [.ints .u64 4 x.2.2.2]]
def f114.bl (_x : List Int × List Int × List Int × List Int) : List (Nat × Blk) := []
def f114.inA : VS → Option (List Int × List Int × List Int × List Int)
  | ⟨[(0, .agg [.ints .u64 4 a0_0, .ints .u64 4 a0_1, .ints .u64 4 a0_2]), (1, .agg [.ints .u64 4 a1])], [], 0⟩ => some (a0_0, a0_1, a0_2, a1)
  | _ => none
def f114.o0 (y : Bool) : VS := ⟨[(0, .bool y)], [], 0⟩
def f114.des : ∀ α : Type, Bool → (VS → Option α) → Option α := (dv1 f114.o0)
def f114.out : Bool → VS := f114.o0
def f114.inR : VS → Option (Bool)
  | ⟨[(0, .bool y)], [], 0⟩ => some y
  | _ => none
noncomputable def f114.E (K : Nat) : Entry := genE 0 f114.inA (f114.F K) f114.des
theorem f114.eq (K : Nat) (x : List Int × List Int × List Int × List Int) : f114.F K x = xrun (getA tys) (tabSp (f114.tab K)) Try.f114.ntmps 0 (f114.lp K) 400 f114.c ⟨initL 0 (f114.av x), f114.bl x, 0⟩ (contF (getA tys) 0 Try.f114.results.toList f114.inR) := by kernel_rfl
theorem f114.ok (K : Nat) : EntryOK Try.prog 114 (f114.E K) :=
  gen_ok mix tys_ok (f114.tabOK K) Try.func114 (by kernel_rfl : Try.f114.body = some f114.c) (by kernel_rfl) (f114.loops K) (av := f114.av) (bl := f114.bl) (out := f114.out) (fuel := 400)
    (by intro s x h; unfold f114.inA at h; split at h <;> simp at h; subst h; rfl) (fun _ => Nat.le_of_ble_eq_true rfl)
    (by intro s y h; unfold f114.inR at h; split at h <;> simp at h <;> subst h <;> rfl) (fun _ _ _ => rfl) (f114.eq K)
end Go.Proofs

namespace Go.Proofs
open Go.VM
/-! ### burrow/burrowref06.Mul -/
noncomputable def f81.c : Code := bodyOf Try.f81
def f81.lp (_ : Nat) : Nat → Option (Hint × Summ) := fun _ => none
noncomputable def f81.tab (K : Nat) : List (Nat × Entry) := [(114, (f114.E K)), (68, (f68.E K))]
theorem f81.tabOK (K : Nat) : SpecOK Try.prog (tabSp (f81.tab K)) := tab_ok ((tab_cons (f114.ok K) (tab_cons (f68.ok K) tab_nil)))
theorem f81.loops (K : Nat) : LoopsOK Try.prog 26 0 (f81.lp K) f81.c := loops_ok (by
  have h : loopsIn (f81.lp K) f81.c = [] := by kernel_rfl
  rw [h]; simp)
def f81.T (K : Nat) (a0_0 : List Int) (a0_1 : List Int) (a0_2 : List Int) (a1 : List Int) (a2 : List Int) : Option (List Int × Int) :=
  (f114.F K (a0_0, a0_1, a0_2, a1)).bind fun y1 =>
  bif !y1 then
    some ([0, 0, 0, 0], 1)
  else
    (f114.F K (a0_0, a0_1, a0_2, a2)).bind fun y2 =>
    bif !y2 then
      some ([0, 0, 0, 0], 1)
    else
      (f68.F K (a1, a2, a0_0)).bind fun y3 =>
      some (y3.1, y3.2)
def f81.F (K : Nat) (x : List Int × List Int × List Int × List Int × List Int) : Option (List Int × Int) := f81.T K x.1 x.2.1 x.2.2.1 x.2.2.2.1 x.2.2.2.2
def f81.av (x : List Int × List Int × List Int × List Int × List Int) : List VV := [.agg [.ints .u64 4 x.1, .ints .u64 4 x.2.1, .ints .u64 4 x.2.2.1], .agg [.ints .u64 4 x.2.2.2.1], .agg [.ints .u64 4 x.2.2.2.2]]
def f81.bl (_x : List Int × List Int × List Int × List Int × List Int) : List (Nat × Blk) := []
def f81.inA : VS → Option (List Int × List Int × List Int × List Int × List Int)
  | ⟨[(0, .agg [.ints .u64 4 a0_0, .ints .u64 4 a0_1, .ints .u64 4 a0_2]), (1, .agg [.ints .u64 4 a1]), (2, .agg [.ints .u64 4 a2])], [], 0⟩ => some (a0_0, a0_1, a0_2, a1, a2)
  | _ => none
def f81.o0 (y : List Int × Int) : VS := ⟨[(0, .tup [.agg [.ints .u64 4 y.1], .int .i64 y.2])], [], 0⟩
def f81.des : ∀ α : Type, (List Int × Int) → (VS → Option α) → Option α := (dv1 f81.o0)
def f81.out : List Int × Int → VS := f81.o0
def f81.inR : VS → Option (List Int × Int)
  | ⟨[(0, .tup [.agg [.ints .u64 4 y_0], .int .i64 y_1])], [], 0⟩ => some (y_0, y_1)
  | _ => none
noncomputable def f81.E (K : Nat) : Entry := genE 0 f81.inA (f81.F K) f81.des
theorem f81.eq (K : Nat) (x : List Int × List Int × List Int × List Int × List Int) : f81.F K x = xrun (getA tys) (tabSp (f81.tab K)) Try.f81.ntmps 0 (f81.lp K) 400 f81.c ⟨initL 0 (f81.av x), f81.bl x, 0⟩ (contF (getA tys) 0 Try.f81.results.toList f81.inR) := by kernel_rfl
theorem f81.ok (K : Nat) : EntryOK Try.prog 81 (f81.E K) :=
  gen_ok mix tys_ok (f81.tabOK K) Try.func81 (by kernel_rfl : Try.f81.body = some f81.c) (by kernel_rfl) (f81.loops K) (av := f81.av) (bl := f81.bl) (out := f81.out) (fuel := 400)
    (by intro s x h; unfold f81.inA at h; split at h <;> simp at h; subst h; rfl) (fun _ => Nat.le_of_ble_eq_true rfl)
    (by intro s y h; unfold f81.inR at h; split at h <;> simp at h <;> subst h <;> rfl) (fun _ _ _ => rfl) (f81.eq K)
end Go.Proofs

namespace Go.Proofs
open Go.VM
/-! ### burrow/burrowref06.Inv -/
noncomputable def f83.c : Code := bodyOf Try.f83
def f83.lp (_ : Nat) : Nat → Option (Hint × Summ) := fun _ => none
noncomputable def f83.tab (K : Nat) : List (Nat × Entry) := [(114, (f114.E K)), (70, (f70.E K))]
theorem f83.tabOK (K : Nat) : SpecOK Try.prog (tabSp (f83.tab K)) := tab_ok ((tab_cons (f114.ok K) (tab_cons (f70.ok K) tab_nil)))
theorem f83.loops (K : Nat) : LoopsOK Try.prog 17 0 (f83.lp K) f83.c := loops_ok (by
  have h : loopsIn (f83.lp K) f83.c = [] := by kernel_rfl
  rw [h]; simp)
def f83.T (K : Nat) (a0_0 : List Int) (a0_1 : List Int) (a0_2 : List Int) (a1 : List Int) : Option (List Int × Int) :=
  (f114.F K (a0_0, a0_1, a0_2, a1)).bind fun y1 =>
  bif !y1 then
    some ([0, 0, 0, 0], 1)
  else
    (f70.F K (a1, a0_0)).bind fun y2 =>
    some (y2.1, y2.2)
def f83.F (K : Nat) (x : List Int × List Int × List Int × List Int) : Option (List Int × Int) := f83.T K x.1 x.2.1 x.2.2.1 x.2.2.2
def f83.av (x : List Int × List Int × List Int × List Int) : List VV := [.agg [.ints .u64 4 x.1, .ints .u64 4 x.2.1, .ints .u64 4 x.2.2.1], .agg [.ints .u64 4 x.2.2.2]]
def f83.bl (_x : List Int × List Int × List Int × List Int) : List (Nat × Blk) := []
def f83.inA : VS → Option (List Int × List Int × List Int × List Int)
  | ⟨[(0, .agg [.ints .u64 4 a0_0, .ints .u64 4 a0_1, .ints .u64 4 a0_2]), (1, .agg [.ints .u64 4 a1])], [], 0⟩ => some (a0_0, a0_1, a0_2, a1)
  | _ => none
def f83.o0 (y : List Int × Int) : VS := ⟨[(0, .tup [.agg [.ints .u64 4 y.1], .int .i64 y.2])], [], 0⟩
def f83.des : ∀ α : Type, (List Int × Int) → (VS → Option α) → Option α := (dv1 f83.o0)
def f83.out : List Int × Int → VS := f83.o0
def f83.inR : VS → Option (List Int × Int)
  | ⟨[(0, .tup [.agg [.ints .u64 4 y_0], .int .i64 y_1])], [], 0⟩ => some (y_0, y_1)
  | _ => none
noncomputable def f83.E (K : Nat) : Entry := genE 0 f83.inA (f83.F K) f83.des
theorem f83.eq (K : Nat) (x : List Int × List Int × List Int × List Int) : f83.F K x = xrun (getA tys) (tabSp (f83.tab K)) Try.f83.ntmps 0 (f83.lp K) 400 f83.c ⟨initL 0 (f83.av x), f83.bl x, 0⟩ (contF (getA tys) 0 Try.f83.results.toList f83.inR) := by kernel_rfl
theorem f83.ok (K : Nat) : EntryOK Try.prog 83 (f83.E K) :=
  gen_ok mix tys_ok (f83.tabOK K) Try.func83 (by kernel_rfl : Try.f83.body = some f83.c) (by kernel_rfl) (f83.loops K) (av := f83.av) (bl := f83.bl) (out := f83.out) (fuel := 400)
    (by intro s x h; unfold f83.inA at h; split at h <;> simp at h; subst h; rfl) (fun _ => Nat.le_of_ble_eq_true rfl)
    (by intro s y h; unfold f83.inR at h; split at h <;> simp at h <;> subst h <;> rfl) (fun _ _ _ => rfl) (f83.eq K)
end Go.Proofs

namespace Go.Proofs
open Go.VM
/-! ### burrow/burrowref06.Exp -/
noncomputable def f84.c : Code := bodyOf Try.f84
def f84.lp (_ : Nat) : Nat → Option (Hint × Summ) := fun _ => none
noncomputable def f84.tab (K : Nat) : List (Nat × Entry) := [(114, (f114.E K)), (69, (f69.E K))]
theorem f84.tabOK (K : Nat) : SpecOK Try.prog (tabSp (f84.tab K)) := tab_ok ((tab_cons (f114.ok K) (tab_cons (f69.ok K) tab_nil)))
theorem f84.loops (K : Nat) : LoopsOK Try.prog 20 0 (f84.lp K) f84.c := loops_ok (by
  have h : loopsIn (f84.lp K) f84.c = [] := by kernel_rfl
  rw [h]; simp)
def f84.T (K : Nat) (a0_0 : List Int) (a0_1 : List Int) (a0_2 : List Int) (a1 : List Int) (a2 : List Int) : Option (List Int × Int) :=
  (f114.F K (a0_0, a0_1, a0_2, a1)).bind fun y1 =>
  bif !y1 then
    some ([0, 0, 0, 0], 1)
  else
    (f69.F K (a1, a2, a0_0)).bind fun y2 =>
    some (y2.1, y2.2)
def f84.F (K : Nat) (x : List Int × List Int × List Int × List Int × List Int) : Option (List Int × Int) := f84.T K x.1 x.2.1 x.2.2.1 x.2.2.2.1 x.2.2.2.2
def f84.av (x : List Int × List Int × List Int × List Int × List Int) : List VV := [.agg [.ints .u64 4 x.1, .ints .u64 4 x.2.1, .ints .u64 4 x.2.2.1], .agg [.ints .u64 4 x.2.2.2.1], .agg [.ints .u64 4 x.2.2.2.2]]
def f84.bl (_x : List Int × List Int × List Int × List Int × List Int) : List (Nat × Blk) := []
def f84.inA : VS → Option (List Int × List Int × List Int × List Int × List Int)
  | ⟨[(0, .agg [.ints .u64 4 a0_0, .ints .u64 4 a0_1, .ints .u64 4 a0_2]), (1, .agg [.ints .u64 4 a1]), (2, .agg [.ints .u64 4 a2])], [], 0⟩ => some (a0_0, a0_1, a0_2, a1, a2)
  | _ => none
def f84.o0 (y : List Int × Int) : VS := ⟨[(0, .tup [.agg [.ints .u64 4 y.1], .int .i64 y.2])], [], 0⟩
def f84.des : ∀ α : Type, (List Int × Int) → (VS → Option α) → Option α := (dv1 f84.o0)
def f84.out : List Int × Int → VS := f84.o0
def f84.inR : VS → Option (List Int × Int)
  | ⟨[(0, .tup [.agg [.ints .u64 4 y_0], .int .i64 y_1])], [], 0⟩ => some (y_0, y_1)
  | _ => none
noncomputable def f84.E (K : Nat) : Entry := genE 0 f84.inA (f84.F K) f84.des
theorem f84.eq (K : Nat) (x : List Int × List Int × List Int × List Int × List Int) : f84.F K x = xrun (getA tys) (tabSp (f84.tab K)) Try.f84.ntmps 0 (f84.lp K) 400 f84.c ⟨initL 0 (f84.av x), f84.bl x, 0⟩ (contF (getA tys) 0 Try.f84.results.toList f84.inR) := by kernel_rfl
theorem f84.ok (K : Nat) : EntryOK Try.prog 84 (f84.E K) :=
  gen_ok mix tys_ok (f84.tabOK K) Try.func84 (by kernel_rfl : Try.f84.body = some f84.c) (by kernel_rfl) (f84.loops K) (av := f84.av) (bl := f84.bl) (out := f84.out) (fuel := 400)
    (by intro s x h; unfold f84.inA at h; split at h <;> simp at h; subst h; rfl) (fun _ => Nat.le_of_ble_eq_true rfl)
    (by intro s y h; unfold f84.inR at h; split at h <;> simp at h <;> subst h <;> rfl) (fun _ _ _ => rfl) (f84.eq K)
end Go.Proofs

namespace Go.Proofs
open Go.VM
/-! ### burrow/burrowref06.In -/
noncomputable def f88.c : Code := bodyOf Try.f88
def f88.lp (_ : Nat) : Nat → Option (Hint × Summ) := fun _ => none
noncomputable def f88.tab (K : Nat) : List (Nat × Entry) := [(114, (f114.E K)), (69, (f69.E K))]
theorem f88.tabOK (K : Nat) : SpecOK Try.prog (tabSp (f88.tab K)) := tab_ok ((tab_cons (f114.ok K) (tab_cons (f69.ok K) tab_nil)))
theorem f88.loops (K : Nat) : LoopsOK Try.prog 27 0 (f88.lp K) f88.c := loops_ok (by
  have h : loopsIn (f88.lp K) f88.c = [] := by kernel_rfl
  rw [h]; simp)
def f88.T (K : Nat) (a0_0 : List Int) (a0_1 : List Int) (a0_2 : List Int) (a1 : List Int) : Option (Bool) :=
  (f114.F K (a0_0, a0_1, a0_2, a1)).bind fun y1 =>
  bif !y1 then
    some false
  else
    (f69.F K (a1, a0_1, a0_0)).bind fun y2 =>
    bif (y2.2 == 0) then
      some (eqL 4 y2.1 [1, 0, 0, 0] && true)
    else
      some false
def f88.F (K : Nat) (x : List Int × List Int × List Int × List Int) : Option (Bool) := f88.T K x.1 x.2.1 x.2.2.1 x.2.2.2
def f88.av (x : List Int × List Int × List Int × List Int) : List VV := [.agg [.ints .u64 4 x.1, .ints .u64 4 x.2.1, .ints .u64 4 x.2.2.1], .agg [.ints .u64 4 x.2.2.2]]
def f88.bl (_x : List Int × List Int × List Int × List Int) : List (Nat × Blk) := []
def f88.inA : VS → Option (List Int × List Int × List Int × List Int)
  | ⟨[(0, .agg [.ints .u64 4 a0_0, .ints .u64 4 a0_1, .ints .u64 4 a0_2]), (1, .agg [.ints .u64 4 a1])], [], 0⟩ => some (a0_0, a0_1, a0_2, a1)
  | _ => none
def f88.o0 (y : Bool) : VS := ⟨[(0, .bool y)], [], 0⟩
def f88.des : ∀ α : Type, Bool → (VS → Option α) → Option α := (dv1 f88.o0)
def f88.out : Bool → VS := f88.o0
def f88.inR : VS → Option (Bool)
  | ⟨[(0, .bool y)], [], 0⟩ => some y
  | _ => none
noncomputable def f88.E (K : Nat) : Entry := genE 0 f88.inA (f88.F K) f88.des
theorem f88.eq (K : Nat) (x : List Int × List Int × List Int × List Int) : f88.F K x = xrun (getA tys) (tabSp (f88.tab K)) Try.f88.ntmps 0 (f88.lp K) 400 f88.c ⟨initL 0 (f88.av x), f88.bl x, 0⟩ (contF (getA tys) 0 Try.f88.results.toList f88.inR) := by kernel_rfl
theorem f88.ok (K : Nat) : EntryOK Try.prog 88 (f88.E K) :=
  gen_ok mix tys_ok (f88.tabOK K) Try.func88 (by kernel_rfl : Try.f88.body = some f88.c) (by kernel_rfl) (f88.loops K) (av := f88.av) (bl := f88.bl) (out := f88.out) (fuel := 400)
    (by intro s x h; unfold f88.inA at h; split at h <;> simp at h; subst h; rfl) (fun _ => Nat.le_of_ble_eq_true rfl)
    (by intro s y h; unfold f88.inR at h; split at h <;> simp at h <;> subst h <;> rfl) (fun _ _ _ => rfl) (f88.eq K)
end Go.Proofs

namespace Go.Proofs
open Go.VM
/-! ### burrow/burrowref06.Fine -/
noncomputable def f86.c : Code := bodyOf Try.f86
def f86.lp (_ : Nat) : Nat → Option (Hint × Summ) := fun _ => none
noncomputable def f86.tab (K : Nat) : List (Nat × Entry) := [(45, (f45.E K)), (88, (f88.E K))]
theorem f86.tabOK (K : Nat) : SpecOK Try.prog (tabSp (f86.tab K)) := tab_ok ((tab_cons (f45.ok K) (tab_cons (f88.ok K) tab_nil)))
theorem f86.loops (K : Nat) : LoopsOK Try.prog 27 0 (f86.lp K) f86.c := loops_ok (by
  have h : loopsIn (f86.lp K) f86.c = [] := by kernel_rfl
  rw [h]; simp)
def f86.T (K : Nat) (a0_0 : List Int) (a0_1 : List Int) (a0_2 : List Int) : Option (Bool) :=
  (f45.F K (a0_0, [1, 0, 0, 0])).bind fun y1 =>
  bif (decide (y1 > 0)) then
    (f45.F K (a0_1, [1, 0, 0, 0])).bind fun y3 =>
    bif (decide (y3 > 0)) then
      (f88.F K (a0_0, a0_1, a0_2, a0_2)).bind fun y5 =>
      bif y5 then
        some (!(eqL 4 a0_2 [1, 0, 0, 0] && true))
      else
        some false
    else
      some false
  else
    some false
def f86.F (K : Nat) (x : List Int × List Int × List Int) : Option (Bool) := f86.T K x.1 x.2.1 x.2.2
def f86.av (x : List Int × List Int × List Int) : List VV := [.agg [.ints .u64 4 x.1, .ints .u64 4 x.2.1, .ints .u64 4 x.2.2]]
def f86.bl (_x : List Int × List Int × List Int) : List (Nat × Blk) := []
def f86.inA : VS → Option (List Int × List Int × List Int)
  | ⟨[(0, .agg [.ints .u64 4 a0_0, .ints .u64 4 a0_1, .ints .u64 4 a0_2])], [], 0⟩ => some (a0_0, a0_1, a0_2)
  | _ => none
def f86.o0 (y : Bool) : VS := ⟨[(0, .bool y)], [], 0⟩
def f86.des : ∀ α : Type, Bool → (VS → Option α) → Option α := (dv1 f86.o0)
def f86.out : Bool → VS := f86.o0
def f86.inR : VS → Option (Bool)
  | ⟨[(0, .bool y)], [], 0⟩ => some y
  | _ => none
noncomputable def f86.E (K : Nat) : Entry := genE 0 f86.inA (f86.F K) f86.des
theorem f86.eq (K : Nat) (x : List Int × List Int × List Int) : f86.F K x = xrun (getA tys) (tabSp (f86.tab K)) Try.f86.ntmps 0 (f86.lp K) 400 f86.c ⟨initL 0 (f86.av x), f86.bl x, 0⟩ (contF (getA tys) 0 Try.f86.results.toList f86.inR) := by kernel_rfl
theorem f86.ok (K : Nat) : EntryOK Try.prog 86 (f86.E K) :=
  gen_ok mix tys_ok (f86.tabOK K) Try.func86 (by kernel_rfl : Try.f86.body = some f86.c) (by kernel_rfl) (f86.loops K) (av := f86.av) (bl := f86.bl) (out := f86.out) (fuel := 400)
    (by intro s x h; unfold f86.inA at h; split at h <;> simp at h; subst h; rfl) (fun _ => Nat.le_of_ble_eq_true rfl)
    (by intro s y h; unfold f86.inR at h; split at h <;> simp at h <;> subst h <;> rfl) (fun _ _ _ => rfl) (f86.eq K)
end Go.Proofs

namespace Go.Proofs
open Go.VM
/-! ### burrow/burrowlaw06.GroupsOf -/
noncomputable def f24.c : Code := bodyOf Try.f24
def f24.lp (_ : Nat) : Nat → Option (Hint × Summ) := fun _ => none
noncomputable def f24.tab (K : Nat) : List (Nat × Entry) := [(79, (f79.E K)), (81, (f81.E K)), (82, (f82.E K)), (83, (f83.E K)), (80, (f80.E K)), (84, (f84.E K)), (85, (f85.E K)), (86, (f86.E K)), (87, (f87.E K)), (88, (f88.E K)), (89, (f89.E K))]
theorem f24.tabOK (K : Nat) : SpecOK Try.prog (tabSp (f24.tab K)) := tab_ok ((tab_cons (f79.ok K) (tab_cons (f81.ok K) (tab_cons (f82.ok K) (tab_cons (f83.ok K) (tab_cons (f80.ok K) (tab_cons (f84.ok K) (tab_cons (f85.ok K) (tab_cons (f86.ok K) (tab_cons (f87.ok K) (tab_cons (f88.ok K) (tab_cons (f89.ok K) tab_nil))))))))))))
theorem f24.loops (K : Nat) : LoopsOK Try.prog 106 0 (f24.lp K) f24.c := loops_ok (by
  have h : loopsIn (f24.lp K) f24.c = [] := by kernel_rfl
  rw [h]; simp)
def f24.T (K : Nat) (a0_0 : List Int) (a0_1 : List Int) (a0_2 : List Int) (a1 : List Int) (a2 : List Int) : Option (Bool) :=
  (f79.F K (a0_0, a0_1, a0_2, a1, a2)).bind fun y1 =>
  (f81.F K (a0_0, a0_1, a0_2, a1, a2)).bind fun y2 =>
  (f82.F K (a0_0, a0_1, a0_2, a1)).bind fun y3 =>
  (f83.F K (a0_0, a0_1, a0_2, a1)).bind fun y4 =>
  (f80.F K (a0_0, a0_1, a0_2, a1, a2)).bind fun y5 =>
  (f84.F K (a0_0, a0_1, a0_2, a1, a2)).bind fun y6 =>
  (f85.F K (a0_0, a0_1, a0_2)).bind fun y7 =>
  (f86.F K (a0_0, a0_1, a0_2)).bind fun y8 =>
  bif (y7 == y8) then
    (f87.F K (a0_0, a0_1, a0_2, a1)).bind fun y9 =>
    (f88.F K (a0_0, a0_1, a0_2, a1)).bind fun y10 =>
    bif (y9 == y10) then
      bif (eqL 4 y1.1 y2.1 && true) then
        bif (y1.2 == y2.2) then
          bif (eqL 4 y3.1 y4.1 && true) then
            bif (y3.2 == y4.2) then
              bif (eqL 4 y5.1 y6.1 && true) then
                bif (y5.2 == y6.2) then
                  (f89.F K ()).bind fun y17 =>
                  some y17
                else
                  some false
              else
                some false
            else
              some false
          else
            some false
        else
          some false
      else
        some false
    else
      some false
  else
    some false
def f24.F (K : Nat) (x : List Int × List Int × List Int × List Int × List Int) : Option (Bool) := f24.T K x.1 x.2.1 x.2.2.1 x.2.2.2.1 x.2.2.2.2
def f24.av (x : List Int × List Int × List Int × List Int × List Int) : List VV := [.agg [.ints .u64 4 x.1, .ints .u64 4 x.2.1, .ints .u64 4 x.2.2.1], .agg [.ints .u64 4 x.2.2.2.1], .agg [.ints .u64 4 x.2.2.2.2]]
def f24.bl (_x : List Int × List Int × List Int × List Int × List Int) : List (Nat × Blk) := []
def f24.inA : VS → Option (List Int × List Int × List Int × List Int × List Int)
  | ⟨[(0, .agg [.ints .u64 4 a0_0, .ints .u64 4 a0_1, .ints .u64 4 a0_2]), (1, .agg [.ints .u64 4 a1]), (2, .agg [.ints .u64 4 a2])], [], 0⟩ => some (a0_0, a0_1, a0_2, a1, a2)
  | _ => none
def f24.o0 (y : Bool) : VS := ⟨[(0, .bool y)], [], 0⟩
def f24.des : ∀ α : Type, Bool → (VS → Option α) → Option α := (dv1 f24.o0)
def f24.out : Bool → VS := f24.o0
def f24.inR : VS → Option (Bool)
  | ⟨[(0, .bool y)], [], 0⟩ => some y
  | _ => none
noncomputable def f24.E (K : Nat) : Entry := genE 0 f24.inA (f24.F K) f24.des
theorem f24.eq (K : Nat) (x : List Int × List Int × List Int × List Int × List Int) : f24.F K x = xrun (getA tys) (tabSp (f24.tab K)) Try.f24.ntmps 0 (f24.lp K) 400 f24.c ⟨initL 0 (f24.av x), f24.bl x, 0⟩ (contF (getA tys) 0 Try.f24.results.toList f24.inR) := by kernel_rfl
theorem f24.ok (K : Nat) : EntryOK Try.prog 24 (f24.E K) :=
  gen_ok mix tys_ok (f24.tabOK K) Try.func24 (by kernel_rfl : Try.f24.body = some f24.c) (by kernel_rfl) (f24.loops K) (av := f24.av) (bl := f24.bl) (out := f24.out) (fuel := 400)
    (by intro s x h; unfold f24.inA at h; split at h <;> simp at h; subst h; rfl) (fun _ => Nat.le_of_ble_eq_true rfl)
    (by intro s y h; unfold f24.inR at h; split at h <;> simp at h <;> subst h <;> rfl) (fun _ _ _ => rfl) (f24.eq K)
end Go.Proofs
