/- Go functions: for each a Lean function with the same answers, and the proof that the call comes to them, with no condition. -/
import Derived.Test.YtjkelipglcnpmaaFl
import Derived.Test.YtjkelipglcnpmaaFx
import Derived.Test.YtjkelipglcnpmaaFe
import Derived.Test.YtjkelipglcnpmaaFd
import Derived.Test.YtjkelipglcnpmaaFm
namespace Go.Proofs
open Go.VM
/-! ### burrow/burrowref04.May -/
noncomputable def f106.c : Code := bodyOf Try.f106
def f106.lp (_ : Nat) : Nat → Option (Hint × Summ) := fun _ => none
noncomputable def f106.tab (K : Nat) : List (Nat × Entry) := [(47, (f47.E K)), (45, (f45.E K))]
theorem f106.tabOK (K : Nat) : SpecOK Try.prog (tabSp (f106.tab K)) := tab_ok ((tab_cons (f47.ok K) (tab_cons (f45.ok K) tab_nil)))
theorem f106.loops (K : Nat) : LoopsOK Try.prog 23 0 (f106.lp K) f106.c := loops_ok (by
  have h : loopsIn (f106.lp K) f106.c = [] := by kernel_rfl
  rw [h]; simp)
def f106.T (K : Nat) (a0 : List Int) (a1 : List Int) (a2 : List Int) : Option (Bool) :=
  (f47.F K 1).bind fun y1 =>
  (f45.F K (a2, y1)).bind fun y2 =>
  bif (decide (y2 > 0)) then
    (f45.F K (a0, a2)).bind fun y4 =>
    bif (decide (y4 < 0)) then
      (f45.F K (a1, a2)).bind fun y6 =>
      some (decide (y6 < 0))
    else
      some false
  else
    some false
def f106.F (K : Nat) (x : List Int × List Int × List Int) : Option (Bool) := f106.T K x.1 x.2.1 x.2.2
def f106.av (x : List Int × List Int × List Int) : List VV := [.agg [.ints .u64 4 x.1], .agg [.ints .u64 4 x.2.1], .agg [.ints .u64 4 x.2.2]]
def f106.bl (_x : List Int × List Int × List Int) : List (Nat × Blk) := []
def f106.inA : VS → Option (List Int × List Int × List Int)
  | ⟨[(0, .agg [.ints .u64 4 a0]), (1, .agg [.ints .u64 4 a1]), (2, .agg [.ints .u64 4 a2])], [], 0⟩ => some (a0, a1, a2)
  | _ => none
def f106.o0 (y : Bool) : VS := ⟨[(0, .bool y)], [], 0⟩
def f106.des : ∀ α : Type, Bool → (VS → Option α) → Option α := (dv1 f106.o0)
def f106.out : Bool → VS := f106.o0
def f106.inR : VS → Option (Bool)
  | ⟨[(0, .bool y)], [], 0⟩ => some y
  | _ => none
noncomputable def f106.E (K : Nat) : Entry := genE 0 f106.inA (f106.F K) f106.des
theorem f106.eq (K : Nat) (x : List Int × List Int × List Int) : f106.F K x = xrun (getA tys) (tabSp (f106.tab K)) Try.f106.ntmps 0 (f106.lp K) 400 f106.c ⟨initL 0 (f106.av x), f106.bl x, 0⟩ (contF (getA tys) 0 Try.f106.results.toList f106.inR) := by kernel_rfl
theorem f106.ok (K : Nat) : EntryOK Try.prog 106 (f106.E K) :=
  gen_ok mix tys_ok (f106.tabOK K) Try.func106 (by kernel_rfl : Try.f106.body = some f106.c) (by kernel_rfl) (f106.loops K) (av := f106.av) (bl := f106.bl) (out := f106.out) (fuel := 400)
    (by intro s x h; unfold f106.inA at h; split at h <;> simp at h; subst h; rfl) (fun _ => Nat.le_of_ble_eq_true rfl)
    (by intro s y h; unfold f106.inR at h; split at h <;> simp at h <;> subst h <;> rfl) (fun _ _ _ => rfl) (f106.eq K)
end Go.Proofs

namespace Go.Proofs
open Go.VM
/-! ### burrow/burrowref04.times -/
noncomputable def f107.c : Code := bodyOf Try.f107
def f107.lp (_ : Nat) : Nat → Option (Hint × Summ) := fun _ => none
noncomputable def f107.tab (K : Nat) : List (Nat × Entry) := [(96, (f96.E K)), (125, (f125.E K)), (100, (f100.E K)), (47, (f47.E K)), (37, (f37.E K)), (55, (f55.E K))]
theorem f107.tabOK (K : Nat) : SpecOK Try.prog (tabSp (f107.tab K)) := tab_ok ((tab_cons (f96.ok K) (tab_cons (f125.ok K) (tab_cons (f100.ok K) (tab_cons (f47.ok K) (tab_cons (f37.ok K) (tab_cons (f55.ok K) tab_nil)))))))
theorem f107.loops (K : Nat) : LoopsOK Try.prog 49 0 (f107.lp K) f107.c := loops_ok (by
  have h : loopsIn (f107.lp K) f107.c = [] := by kernel_rfl
  rw [h]; simp)
def f107.T (K : Nat) (a0 : List Int) (a1 : List Int) (a2 : List Int) : Option (List Int) :=
  (f96.F K a2).bind fun y1 =>
  bif y1 then
    (f125.F K ((List.getD a0 0 0), (List.getD a1 0 0))).bind fun y4 =>
    (f100.F K (y4.1, y4.2, (List.getD a2 0 0))).bind fun y6 =>
    (f47.F K y6.2).bind fun y7 =>
    some y7
  else
    (f37.F K (a0, a1)).bind fun y8 =>
    (f55.F K (y8.1, y8.2, a2)).bind fun y9 =>
    some y9.1
def f107.F (K : Nat) (x : List Int × List Int × List Int) : Option (List Int) := f107.T K x.1 x.2.1 x.2.2
def f107.av (x : List Int × List Int × List Int) : List VV := [.agg [.ints .u64 4 x.1], .agg [.ints .u64 4 x.2.1], .agg [.ints .u64 4 x.2.2]]
def f107.bl (_x : List Int × List Int × List Int) : List (Nat × Blk) := []
def f107.inA : VS → Option (List Int × List Int × List Int)
  | ⟨[(0, .agg [.ints .u64 4 a0]), (1, .agg [.ints .u64 4 a1]), (2, .agg [.ints .u64 4 a2])], [], 0⟩ => some (a0, a1, a2)
  | _ => none
def f107.o0 (y : List Int) : VS := ⟨[(0, .agg [.ints .u64 4 y])], [], 0⟩
def f107.des : ∀ α : Type, (List Int) → (VS → Option α) → Option α := (dv1 f107.o0)
def f107.out : List Int → VS := f107.o0
def f107.inR : VS → Option (List Int)
  | ⟨[(0, .agg [.ints .u64 4 y])], [], 0⟩ => some y
  | _ => none
noncomputable def f107.E (K : Nat) : Entry := genE 0 f107.inA (f107.F K) f107.des
theorem f107.eq (K : Nat) (x : List Int × List Int × List Int) : f107.F K x = xrun (getA tys) (tabSp (f107.tab K)) Try.f107.ntmps 0 (f107.lp K) 400 f107.c ⟨initL 0 (f107.av x), f107.bl x, 0⟩ (contF (getA tys) 0 Try.f107.results.toList f107.inR) := by kernel_rfl
theorem f107.ok (K : Nat) : EntryOK Try.prog 107 (f107.E K) :=
  gen_ok mix tys_ok (f107.tabOK K) Try.func107 (by kernel_rfl : Try.f107.body = some f107.c) (by kernel_rfl) (f107.loops K) (av := f107.av) (bl := f107.bl) (out := f107.out) (fuel := 400)
    (by intro s x h; unfold f107.inA at h; split at h <;> simp at h; subst h; rfl) (fun _ => Nat.le_of_ble_eq_true rfl)
    (by intro s y h; unfold f107.inR at h; split at h <;> simp at h <;> subst h <;> rfl) (fun _ _ _ => rfl) (f107.eq K)
end Go.Proofs

namespace Go.Proofs
open Go.VM
/-! ### burrow/burrowref04.word -/
noncomputable def f108.c : Code := bodyOf Try.f108
def f108.s0t (K : Nat) (rec : Int × Int × Int × Int × List Int → Option (Int)) (t0 : Int) (t2 : Int) (t7 : Int) (t8 : Int) (b0 : List Int) : Option (Int) :=
  bif (decide (t8 ≥ 0)) then
    (f125.F K (t7, t7)).bind fun y5 =>
    (f100.F K (y5.1, y5.2, t2)).bind fun y6 =>
    let v7 := IntKind.wrap .i64 (Int.tdiv t8 64)
    bif decide (0 ≤ v7 ∧ v7 < 4) then
      let v10 := Int.tmod t8 64
      bif decide (0 ≤ v10) then
        bif ((bits .and .u64 (shiftI .shr .u64 (List.getD b0 (Int.toNat v7) 0) v10) 1) == 1) then
          (f125.F K (y6.2, t0)).bind fun y13 =>
          (f100.F K (y13.1, y13.2, t2)).bind fun y14 =>
          rec (t0, t2, y14.2, (IntKind.wrap .i64 (t8 - 1)), b0)
        else
          rec (t0, t2, y6.2, (IntKind.wrap .i64 (t8 - 1)), b0)
      else
        none
    else
      none
  else
    some t7
def f108.s0 (K : Nat) (rec : Int × Int × Int × Int × List Int → Option (Int)) (x : Int × Int × Int × Int × List Int) : Option (Int) := f108.s0t K rec x.1 x.2.1 x.2.2.1 x.2.2.2.1 x.2.2.2.2
noncomputable def f108.s0.b : Code := (findLoop 0 f108.c).getD .skip
def f108.s0.h : Hint := { lv := [0, 2, 4, 7, 8] }
def f108.s0.ho : Hint := { lv := [7] }
def f108.s0.shp (x : Int × Int × Int × Int × List Int) : VS := ⟨[(0, .int .u64 x.1), (2, .int .u64 x.2.1), (4, .ptr 0 0), (7, .int .u64 x.2.2.1), (8, .int .i64 x.2.2.2.1)], [(0, ([.ints .u64 4 x.2.2.2.2], 24, .norm))], 1⟩
def f108.s0.inX : VS → Option (Int × Int × Int × Int × List Int)
  | ⟨[(0, .int .u64 t0), (2, .int .u64 t2), (4, .ptr 0 0), (7, .int .u64 t7), (8, .int .i64 t8)], [(0, ([.ints .u64 4 b0], 24, .norm))], 1⟩ => some (t0, t2, t7, t8, b0)
  | _ => none
def f108.s0.o0 (y : Int) : VS := ⟨[(7, .int .u64 y)], [], 0⟩
def f108.s0.des : ∀ α : Type, Int → (Ex → VS → Option α) → Option α := (des1 (.exit 0) f108.s0.o0)
def f108.s0.out : Int → Ex × VS := (fun y => (.exit 0, f108.s0.o0 y))
theorem f108.s0.desOK : ∀ α y (k : Ex → VS → Option α), f108.s0.des α y k = k (f108.s0.out y).1 (f108.s0.out y).2 := (fun _ _ _ => rfl)
def f108.s0.inY : Ex → VS → Option (Int)
  | .exit 0, ⟨[(7, .int .u64 t7)], [], 0⟩ => some t7
  | _, _ => none
def f108.lp (K : Nat) : Nat → Option (Hint × Summ) := tabLp [(0, f108.s0.h, summOf (iter (f108.s0 K) K) f108.s0.inX f108.s0.des)]
noncomputable def f108.tab (K : Nat) : List (Nat × Entry) := [(43, (f43.E K)), (125, (f125.E K)), (100, (f100.E K))]
theorem f108.tabOK (K : Nat) : SpecOK Try.prog (tabSp (f108.tab K)) := tab_ok ((tab_cons (f43.ok K) (tab_cons (f125.ok K) (tab_cons (f100.ok K) tab_nil))))
theorem f108.s0.eq (K : Nat) (rec : Int × Int × Int × Int × List Int → Option (Int)) (x : Int × Int × Int × Int × List Int) : f108.s0 K rec x = roundL (getA tys) (tabSp (f108.tab K)) 56 0 (f108.lp K) 400 f108.s0.b f108.s0.h f108.s0.ho f108.s0.shp f108.s0.inX f108.s0.inY rec x := by kernel_rfl
theorem f108.s0.lok (K : Nat) : LoopsOK Try.prog 56 0 (f108.lp K) f108.s0.b := loops_ok (by
  have h : loopsIn (f108.lp K) f108.s0.b = [] := by kernel_rfl
  rw [h]; simp)
theorem f108.s0.ok (K : Nat) : SummOK Try.prog 56 0 (summOf (iter (f108.s0 K) K) f108.s0.inX f108.s0.des) f108.s0.b :=
  loop_ok mix tys_ok (f108.tabOK K) (h := f108.s0.h) (ho := f108.s0.ho) (shp := f108.s0.shp) (inX := f108.s0.inX) (des := f108.s0.des) (out := f108.s0.out) (inY := f108.s0.inY) (fuel := 400)
    (by intro st x h; unfold f108.s0.inX at h; split at h <;> simp at h; subst h; rfl)
    (by intro e st y h; unfold f108.s0.inY at h; split at h <;> simp at h <;> subst h <;> rfl)
    f108.s0.desOK (f108.s0.lok K) (f108.s0 K) (f108.s0.eq K) K
theorem f108.loops (K : Nat) : LoopsOK Try.prog 56 0 (f108.lp K) f108.c := loops_ok (by
  have h : loopsIn (f108.lp K) f108.c = [(0, f108.s0.b)] := by kernel_rfl
  rw [h]
  intro p hp
  simp only [List.mem_cons, List.not_mem_nil, or_false] at hp
  rcases hp with rfl
  · exact ⟨_, rfl, (f108.s0.ok K)⟩)
def f108.T (K : Nat) (a0 : Int) (a1 : List Int) (a2 : Int) : Option (Int) :=
  bif decide (a2 ≠ 0) then
    (f43.F K a1).bind fun y2 =>
    (iter (f108.s0 K) K (a0, a2, (Int.tmod 1 a2), (IntKind.wrap .i64 (y2 - 1)), a1)).bind fun y17 =>
    some y17
  else
    none
def f108.F (K : Nat) (x : Int × List Int × Int) : Option (Int) := f108.T K x.1 x.2.1 x.2.2
def f108.av (x : Int × List Int × Int) : List VV := [.int .u64 x.1, .agg [.ints .u64 4 x.2.1], .int .u64 x.2.2]
def f108.bl (_x : Int × List Int × Int) : List (Nat × Blk) := []
def f108.inA : VS → Option (Int × List Int × Int)
  | ⟨[(0, .int .u64 a0), (1, .agg [.ints .u64 4 a1]), (2, .int .u64 a2)], [], 0⟩ => some (a0, a1, a2)
  | _ => none
def f108.o0 (y : Int) : VS := ⟨[(0, .int .u64 y)], [], 0⟩
def f108.des : ∀ α : Type, Int → (VS → Option α) → Option α := (dv1 f108.o0)
def f108.out : Int → VS := f108.o0
def f108.inR : VS → Option (Int)
  | ⟨[(0, .int .u64 y)], [], 0⟩ => some y
  | _ => none
noncomputable def f108.E (K : Nat) : Entry := genE 0 f108.inA (f108.F K) f108.des
theorem f108.eq (K : Nat) (x : Int × List Int × Int) : f108.F K x = xrun (getA tys) (tabSp (f108.tab K)) Try.f108.ntmps 0 (f108.lp K) 400 f108.c ⟨initL 0 (f108.av x), f108.bl x, 0⟩ (contF (getA tys) 0 Try.f108.results.toList f108.inR) := by kernel_rfl
theorem f108.ok (K : Nat) : EntryOK Try.prog 108 (f108.E K) :=
  gen_ok mix tys_ok (f108.tabOK K) Try.func108 (by kernel_rfl : Try.f108.body = some f108.c) (by kernel_rfl) (f108.loops K) (av := f108.av) (bl := f108.bl) (out := f108.out) (fuel := 400)
    (by intro s x h; unfold f108.inA at h; split at h <;> simp at h; subst h; rfl) (fun _ => Nat.le_of_ble_eq_true rfl)
    (by intro s y h; unfold f108.inR at h; split at h <;> simp at h <;> subst h <;> rfl) (fun _ _ _ => rfl) (f108.eq K)
end Go.Proofs

namespace Go.Proofs
open Go.VM
/-! ### burrow/burrowref04.Add -/
noncomputable def f66.c : Code := bodyOf Try.f66
def f66.lp (_ : Nat) : Nat → Option (Hint × Summ) := fun _ => none
noncomputable def f66.tab (K : Nat) : List (Nat × Entry) := [(106, (f106.E K)), (33, (f33.E K)), (35, (f35.E K)), (45, (f45.E K))]
theorem f66.tabOK (K : Nat) : SpecOK Try.prog (tabSp (f66.tab K)) := tab_ok ((tab_cons (f106.ok K) (tab_cons (f33.ok K) (tab_cons (f35.ok K) (tab_cons (f45.ok K) tab_nil)))))
theorem f66.loops (K : Nat) : LoopsOK Try.prog 37 0 (f66.lp K) f66.c := loops_ok (by
  have h : loopsIn (f66.lp K) f66.c = [] := by kernel_rfl
  rw [h]; simp)
def f66.T (K : Nat) (a0 : List Int) (a1 : List Int) (a2 : List Int) : Option (List Int × Int) :=
  (f106.F K (a0, a1, a2)).bind fun y1 =>
  bif !y1 then
    some ([0, 0, 0, 0], 1)
  else
    (f33.F K (a0, a1)).bind fun y2 =>
    bif (y2.2 == 1) then
      (f35.F K (y2.1, a2)).bind fun y3 =>
      some (y3.1, 0)
    else
      (f45.F K (y2.1, a2)).bind fun y4 =>
      bif (decide (y4 ≥ 0)) then
        (f35.F K (y2.1, a2)).bind fun y6 =>
        some (y6.1, 0)
      else
        some (y2.1, 0)
def f66.F (K : Nat) (x : List Int × List Int × List Int) : Option (List Int × Int) := f66.T K x.1 x.2.1 x.2.2
def f66.av (x : List Int × List Int × List Int) : List VV := [.agg [.ints .u64 4 x.1], .agg [.ints .u64 4 x.2.1], .agg [.ints .u64 4 x.2.2]]
def f66.bl (_x : List Int × List Int × List Int) : List (Nat × Blk) := []
def f66.inA : VS → Option (List Int × List Int × List Int)
  | ⟨[(0, .agg [.ints .u64 4 a0]), (1, .agg [.ints .u64 4 a1]), (2, .agg [.ints .u64 4 a2])], [], 0⟩ => some (a0, a1, a2)
  | _ => none
def f66.o0 (y : List Int × Int) : VS := ⟨[(0, .tup [.agg [.ints .u64 4 y.1], .int .i64 y.2])], [], 0⟩
def f66.des : ∀ α : Type, (List Int × Int) → (VS → Option α) → Option α := (dv1 f66.o0)
def f66.out : List Int × Int → VS := f66.o0
def f66.inR : VS → Option (List Int × Int)
  | ⟨[(0, .tup [.agg [.ints .u64 4 y_0], .int .i64 y_1])], [], 0⟩ => some (y_0, y_1)
  | _ => none
noncomputable def f66.E (K : Nat) : Entry := genE 0 f66.inA (f66.F K) f66.des
theorem f66.eq (K : Nat) (x : List Int × List Int × List Int) : f66.F K x = xrun (getA tys) (tabSp (f66.tab K)) Try.f66.ntmps 0 (f66.lp K) 400 f66.c ⟨initL 0 (f66.av x), f66.bl x, 0⟩ (contF (getA tys) 0 Try.f66.results.toList f66.inR) := by kernel_rfl
theorem f66.ok (K : Nat) : EntryOK Try.prog 66 (f66.E K) :=
  gen_ok mix tys_ok (f66.tabOK K) Try.func66 (by kernel_rfl : Try.f66.body = some f66.c) (by kernel_rfl) (f66.loops K) (av := f66.av) (bl := f66.bl) (out := f66.out) (fuel := 400)
    (by intro s x h; unfold f66.inA at h; split at h <;> simp at h; subst h; rfl) (fun _ => Nat.le_of_ble_eq_true rfl)
    (by intro s y h; unfold f66.inR at h; split at h <;> simp at h <;> subst h <;> rfl) (fun _ _ _ => rfl) (f66.eq K)
end Go.Proofs

namespace Go.Proofs
open Go.VM
/-! ### burrow/burrowref04.Sub -/
noncomputable def f67.c : Code := bodyOf Try.f67
def f67.lp (_ : Nat) : Nat → Option (Hint × Summ) := fun _ => none
noncomputable def f67.tab (K : Nat) : List (Nat × Entry) := [(106, (f106.E K)), (35, (f35.E K)), (33, (f33.E K))]
theorem f67.tabOK (K : Nat) : SpecOK Try.prog (tabSp (f67.tab K)) := tab_ok ((tab_cons (f106.ok K) (tab_cons (f35.ok K) (tab_cons (f33.ok K) tab_nil))))
theorem f67.loops (K : Nat) : LoopsOK Try.prog 31 0 (f67.lp K) f67.c := loops_ok (by
  have h : loopsIn (f67.lp K) f67.c = [] := by kernel_rfl
  rw [h]; simp)
def f67.T (K : Nat) (a0 : List Int) (a1 : List Int) (a2 : List Int) : Option (List Int × Int) :=
  (f106.F K (a0, a1, a2)).bind fun y1 =>
  bif !y1 then
    some ([0, 0, 0, 0], 1)
  else
    (f35.F K (a0, a1)).bind fun y2 =>
    bif (y2.2 == 1) then
      (f33.F K (y2.1, a2)).bind fun y3 =>
      some (y3.1, 0)
    else
      some (y2.1, 0)
def f67.F (K : Nat) (x : List Int × List Int × List Int) : Option (List Int × Int) := f67.T K x.1 x.2.1 x.2.2
def f67.av (x : List Int × List Int × List Int) : List VV := [.agg [.ints .u64 4 x.1], .agg [.ints .u64 4 x.2.1], .agg [.ints .u64 4 x.2.2]]
def f67.bl (_x : List Int × List Int × List Int) : List (Nat × Blk) := []
def f67.inA : VS → Option (List Int × List Int × List Int)
  | ⟨[(0, .agg [.ints .u64 4 a0]), (1, .agg [.ints .u64 4 a1]), (2, .agg [.ints .u64 4 a2])], [], 0⟩ => some (a0, a1, a2)
  | _ => none
def f67.o0 (y : List Int × Int) : VS := ⟨[(0, .tup [.agg [.ints .u64 4 y.1], .int .i64 y.2])], [], 0⟩
def f67.des : ∀ α : Type, (List Int × Int) → (VS → Option α) → Option α := (dv1 f67.o0)
def f67.out : List Int × Int → VS := f67.o0
def f67.inR : VS → Option (List Int × Int)
  | ⟨[(0, .tup [.agg [.ints .u64 4 y_0], .int .i64 y_1])], [], 0⟩ => some (y_0, y_1)
  | _ => none
noncomputable def f67.E (K : Nat) : Entry := genE 0 f67.inA (f67.F K) f67.des
theorem f67.eq (K : Nat) (x : List Int × List Int × List Int) : f67.F K x = xrun (getA tys) (tabSp (f67.tab K)) Try.f67.ntmps 0 (f67.lp K) 400 f67.c ⟨initL 0 (f67.av x), f67.bl x, 0⟩ (contF (getA tys) 0 Try.f67.results.toList f67.inR) := by kernel_rfl
theorem f67.ok (K : Nat) : EntryOK Try.prog 67 (f67.E K) :=
  gen_ok mix tys_ok (f67.tabOK K) Try.func67 (by kernel_rfl : Try.f67.body = some f67.c) (by kernel_rfl) (f67.loops K) (av := f67.av) (bl := f67.bl) (out := f67.out) (fuel := 400)
    (by intro s x h; unfold f67.inA at h; split at h <;> simp at h; subst h; rfl) (fun _ => Nat.le_of_ble_eq_true rfl)
    (by intro s y h; unfold f67.inR at h; split at h <;> simp at h <;> subst h <;> rfl) (fun _ _ _ => rfl) (f67.eq K)
end Go.Proofs

namespace Go.Proofs
open Go.VM
/-! ### burrow/burrowref04.Mul -/
noncomputable def f68.c : Code := bodyOf Try.f68
def f68.lp (_ : Nat) : Nat → Option (Hint × Summ) := fun _ => none
noncomputable def f68.tab (K : Nat) : List (Nat × Entry) := [(106, (f106.E K)), (107, (f107.E K))]
theorem f68.tabOK (K : Nat) : SpecOK Try.prog (tabSp (f68.tab K)) := tab_ok ((tab_cons (f106.ok K) (tab_cons (f107.ok K) tab_nil)))
theorem f68.loops (K : Nat) : LoopsOK Try.prog 18 0 (f68.lp K) f68.c := loops_ok (by
  have h : loopsIn (f68.lp K) f68.c = [] := by kernel_rfl
  rw [h]; simp)
def f68.T (K : Nat) (a0 : List Int) (a1 : List Int) (a2 : List Int) : Option (List Int × Int) :=
  (f106.F K (a0, a1, a2)).bind fun y1 =>
  bif !y1 then
    some ([0, 0, 0, 0], 1)
  else
    (f107.F K (a0, a1, a2)).bind fun y2 =>
    some (y2, 0)
def f68.F (K : Nat) (x : List Int × List Int × List Int) : Option (List Int × Int) := f68.T K x.1 x.2.1 x.2.2
def f68.av (x : List Int × List Int × List Int) : List VV := [.agg [.ints .u64 4 x.1], .agg [.ints .u64 4 x.2.1], .agg [.ints .u64 4 x.2.2]]
def f68.bl (_x : List Int × List Int × List Int) : List (Nat × Blk) := []
def f68.inA : VS → Option (List Int × List Int × List Int)
  | ⟨[(0, .agg [.ints .u64 4 a0]), (1, .agg [.ints .u64 4 a1]), (2, .agg [.ints .u64 4 a2])], [], 0⟩ => some (a0, a1, a2)
  | _ => none
def f68.o0 (y : List Int × Int) : VS := ⟨[(0, .tup [.agg [.ints .u64 4 y.1], .int .i64 y.2])], [], 0⟩
def f68.des : ∀ α : Type, (List Int × Int) → (VS → Option α) → Option α := (dv1 f68.o0)
def f68.out : List Int × Int → VS := f68.o0
def f68.inR : VS → Option (List Int × Int)
  | ⟨[(0, .tup [.agg [.ints .u64 4 y_0], .int .i64 y_1])], [], 0⟩ => some (y_0, y_1)
  | _ => none
noncomputable def f68.E (K : Nat) : Entry := genE 0 f68.inA (f68.F K) f68.des
theorem f68.eq (K : Nat) (x : List Int × List Int × List Int) : f68.F K x = xrun (getA tys) (tabSp (f68.tab K)) Try.f68.ntmps 0 (f68.lp K) 400 f68.c ⟨initL 0 (f68.av x), f68.bl x, 0⟩ (contF (getA tys) 0 Try.f68.results.toList f68.inR) := by kernel_rfl
theorem f68.ok (K : Nat) : EntryOK Try.prog 68 (f68.E K) :=
  gen_ok mix tys_ok (f68.tabOK K) Try.func68 (by kernel_rfl : Try.f68.body = some f68.c) (by kernel_rfl) (f68.loops K) (av := f68.av) (bl := f68.bl) (out := f68.out) (fuel := 400)
    (by intro s x h; unfold f68.inA at h; split at h <;> simp at h; subst h; rfl) (fun _ => Nat.le_of_ble_eq_true rfl)
    (by intro s y h; unfold f68.inR at h; split at h <;> simp at h <;> subst h <;> rfl) (fun _ _ _ => rfl) (f68.eq K)
end Go.Proofs

namespace Go.Proofs
open Go.VM
/-! ### burrow/burrowref04.Exp -/
noncomputable def f69.c : Code := bodyOf Try.f69
def f69.s0t (K : Nat) (rec : Int × List Int × List Int × List Int × List Int × List Int → Option (List Int × List Int)) (t9 : Int) (b0 : List Int) (b1 : List Int) (b2 : List Int) (b3 : List Int) (b4 : List Int) : Option (List Int × List Int) :=
  bif (decide (t9 ≥ 0)) then
    (f107.F K (b4, b4, b2)).bind fun y11 =>
    (f41.F K (b1, t9)).bind fun y12 =>
    bif (y12 == 1) then
      (f107.F K (y11, b0, b2)).bind fun y13 =>
      rec ((IntKind.wrap .i64 (t9 - 1)), b0, b1, b2, b3, y13)
    else
      rec ((IntKind.wrap .i64 (t9 - 1)), b0, b1, b2, b3, y11)
  else
    some (b3, b4)
def f69.s0 (K : Nat) (rec : Int × List Int × List Int × List Int × List Int × List Int → Option (List Int × List Int)) (x : Int × List Int × List Int × List Int × List Int × List Int) : Option (List Int × List Int) := f69.s0t K rec x.1 x.2.1 x.2.2.1 x.2.2.2.1 x.2.2.2.2.1 x.2.2.2.2.2
noncomputable def f69.s0.b : Code := (findLoop 0 f69.c).getD .skip
def f69.s0.h : Hint := { lv := [3, 4, 5, 6, 8, 9] }
def f69.s0.ho : Hint := { lv := [6, 8] }
def f69.s0.shp (x : Int × List Int × List Int × List Int × List Int × List Int) : VS := ⟨[(3, .ptr 0 0), (4, .ptr 1 0), (5, .ptr 2 0), (6, .ptr 3 0), (8, .ptr 4 0), (9, .int .i64 x.1)], [(0, ([.ints .u64 4 x.2.1], 24, .norm)), (1, ([.ints .u64 4 x.2.2.1], 24, .norm)), (2, ([.ints .u64 4 x.2.2.2.1], 24, .norm)), (3, ([.ints .u64 4 x.2.2.2.2.1], 24, .norm)), (4, ([.ints .u64 4 x.2.2.2.2.2], 24, .norm))], 5⟩
def f69.s0.inX : VS → Option (Int × List Int × List Int × List Int × List Int × List Int)
  | ⟨[(3, .ptr 0 0), (4, .ptr 1 0), (5, .ptr 2 0), (6, .ptr 3 0), (8, .ptr 4 0), (9, .int .i64 t9)], [(0, ([.ints .u64 4 b0], 24, .norm)), (1, ([.ints .u64 4 b1], 24, .norm)), (2, ([.ints .u64 4 b2], 24, .norm)), (3, ([.ints .u64 4 b3], 24, .norm)), (4, ([.ints .u64 4 b4], 24, .norm))], 5⟩ => some (t9, b0, b1, b2, b3, b4)
  | _ => none
def f69.s0.o0 (y : List Int × List Int) : VS := ⟨[(6, .ptr 0 0), (8, .ptr 1 0)], [(0, ([.ints .u64 4 y.1], 24, .norm)), (1, ([.ints .u64 4 y.2], 24, .norm))], 2⟩
def f69.s0.des : ∀ α : Type, (List Int × List Int) → (Ex → VS → Option α) → Option α := (des1 (.exit 0) f69.s0.o0)
def f69.s0.out : List Int × List Int → Ex × VS := (fun y => (.exit 0, f69.s0.o0 y))
theorem f69.s0.desOK : ∀ α y (k : Ex → VS → Option α), f69.s0.des α y k = k (f69.s0.out y).1 (f69.s0.out y).2 := (fun _ _ _ => rfl)
def f69.s0.inY : Ex → VS → Option (List Int × List Int)
  | .exit 0, ⟨[(6, .ptr 0 0), (8, .ptr 1 0)], [(0, ([.ints .u64 4 b0], 24, .norm)), (1, ([.ints .u64 4 b1], 24, .norm))], 2⟩ => some (b0, b1)
  | _, _ => none
def f69.lp (K : Nat) : Nat → Option (Hint × Summ) := tabLp [(0, f69.s0.h, summOf (iter (f69.s0 K) K) f69.s0.inX f69.s0.des)]
noncomputable def f69.tab (K : Nat) : List (Nat × Entry) := [(106, (f106.E K)), (96, (f96.E K)), (108, (f108.E K)), (47, (f47.E K)), (43, (f43.E K)), (107, (f107.E K)), (41, (f41.E K))]
theorem f69.tabOK (K : Nat) : SpecOK Try.prog (tabSp (f69.tab K)) := tab_ok ((tab_cons (f106.ok K) (tab_cons (f96.ok K) (tab_cons (f108.ok K) (tab_cons (f47.ok K) (tab_cons (f43.ok K) (tab_cons (f107.ok K) (tab_cons (f41.ok K) tab_nil))))))))
theorem f69.s0.eq (K : Nat) (rec : Int × List Int × List Int × List Int × List Int × List Int → Option (List Int × List Int)) (x : Int × List Int × List Int × List Int × List Int × List Int) : f69.s0 K rec x = roundL (getA tys) (tabSp (f69.tab K)) 46 0 (f69.lp K) 400 f69.s0.b f69.s0.h f69.s0.ho f69.s0.shp f69.s0.inX f69.s0.inY rec x := by kernel_rfl
theorem f69.s0.lok (K : Nat) : LoopsOK Try.prog 46 0 (f69.lp K) f69.s0.b := loops_ok (by
  have h : loopsIn (f69.lp K) f69.s0.b = [] := by kernel_rfl
  rw [h]; simp)
theorem f69.s0.ok (K : Nat) : SummOK Try.prog 46 0 (summOf (iter (f69.s0 K) K) f69.s0.inX f69.s0.des) f69.s0.b :=
  loop_ok mix tys_ok (f69.tabOK K) (h := f69.s0.h) (ho := f69.s0.ho) (shp := f69.s0.shp) (inX := f69.s0.inX) (des := f69.s0.des) (out := f69.s0.out) (inY := f69.s0.inY) (fuel := 400)
    (by intro st x h; unfold f69.s0.inX at h; split at h <;> simp at h; subst h; rfl)
    (by intro e st y h; unfold f69.s0.inY at h; split at h <;> simp at h <;> subst h <;> rfl)
    f69.s0.desOK (f69.s0.lok K) (f69.s0 K) (f69.s0.eq K) K
theorem f69.loops (K : Nat) : LoopsOK Try.prog 46 0 (f69.lp K) f69.c := loops_ok (by
  have h : loopsIn (f69.lp K) f69.c = [(0, f69.s0.b)] := by kernel_rfl
  rw [h]
  intro p hp
  simp only [List.mem_cons, List.not_mem_nil, or_false] at hp
  rcases hp with rfl
  · exact ⟨_, rfl, (f69.s0.ok K)⟩)
def f69.T (K : Nat) (a0 : List Int) (a1 : List Int) (a2 : List Int) : Option (List Int × Int) :=
  (f106.F K (a0, a0, a2)).bind fun y1 =>
  bif !y1 then
    some ([0, 0, 0, 0], 1)
  else
    (f96.F K a2).bind fun y2 =>
    bif y2 then
      (f108.F K ((List.getD a0 0 0), a1, (List.getD a2 0 0))).bind fun y5 =>
      (f47.F K y5).bind fun y6 =>
      some (y6, 0)
    else
      (f47.F K 1).bind fun y7 =>
      (f43.F K a1).bind fun y8 =>
      (iter (f69.s0 K) K ((IntKind.wrap .i64 (y8 - 1)), a0, a1, a2, [0, 0, 0, 0], y7)).bind fun y16 =>
      some (y16.2, 0)
def f69.F (K : Nat) (x : List Int × List Int × List Int) : Option (List Int × Int) := f69.T K x.1 x.2.1 x.2.2
def f69.av (x : List Int × List Int × List Int) : List VV := [.agg [.ints .u64 4 x.1], .agg [.ints .u64 4 x.2.1], .agg [.ints .u64 4 x.2.2]]
def f69.bl (_x : List Int × List Int × List Int) : List (Nat × Blk) := []
def f69.inA : VS → Option (List Int × List Int × List Int)
  | ⟨[(0, .agg [.ints .u64 4 a0]), (1, .agg [.ints .u64 4 a1]), (2, .agg [.ints .u64 4 a2])], [], 0⟩ => some (a0, a1, a2)
  | _ => none
def f69.o0 (y : List Int × Int) : VS := ⟨[(0, .tup [.agg [.ints .u64 4 y.1], .int .i64 y.2])], [], 0⟩
def f69.des : ∀ α : Type, (List Int × Int) → (VS → Option α) → Option α := (dv1 f69.o0)
def f69.out : List Int × Int → VS := f69.o0
def f69.inR : VS → Option (List Int × Int)
  | ⟨[(0, .tup [.agg [.ints .u64 4 y_0], .int .i64 y_1])], [], 0⟩ => some (y_0, y_1)
  | _ => none
noncomputable def f69.E (K : Nat) : Entry := genE 0 f69.inA (f69.F K) f69.des
theorem f69.eq (K : Nat) (x : List Int × List Int × List Int) : f69.F K x = xrun (getA tys) (tabSp (f69.tab K)) Try.f69.ntmps 0 (f69.lp K) 400 f69.c ⟨initL 0 (f69.av x), f69.bl x, 0⟩ (contF (getA tys) 0 Try.f69.results.toList f69.inR) := by kernel_rfl
theorem f69.ok (K : Nat) : EntryOK Try.prog 69 (f69.E K) :=
  gen_ok mix tys_ok (f69.tabOK K) Try.func69 (by kernel_rfl : Try.f69.body = some f69.c) (by kernel_rfl) (f69.loops K) (av := f69.av) (bl := f69.bl) (out := f69.out) (fuel := 400)
    (by intro s x h; unfold f69.inA at h; split at h <;> simp at h; subst h; rfl) (fun _ => Nat.le_of_ble_eq_true rfl)
    (by intro s y h; unfold f69.inR at h; split at h <;> simp at h <;> subst h <;> rfl) (fun _ _ _ => rfl) (f69.eq K)
end Go.Proofs

namespace Go.Proofs
open Go.VM
/-! ### burrow/burrowref04.Inv -/
noncomputable def f70.c : Code := bodyOf Try.f70
def f70.s0t (K : Nat) (rec : List Int × List Int × List Int × List Int × List Int × List Int → Option (List Int × List Int)) (b0 : List Int) (b1 : List Int) (b2 : List Int) (b3 : List Int) (b4 : List Int) (b5 : List Int) : Option (List Int × List Int) :=
  (f47.F K 1).bind fun y6 =>
  bif (!(eqL 4 b3 y6 && true)) then
    (f53.F K (b2, b3)).bind fun y8 =>
    (f53.F K (y8.1, b0)).bind fun y9 =>
    (f107.F K (y9.2.1, b5, b0)).bind fun y10 =>
    (f67.F K (b4, y10, b0)).bind fun y11 =>
    rec (b0, b1, b3, y8.2.1, b5, y11.1)
  else
    some (b1, b5)
def f70.s0 (K : Nat) (rec : List Int × List Int × List Int × List Int × List Int × List Int → Option (List Int × List Int)) (x : List Int × List Int × List Int × List Int × List Int × List Int) : Option (List Int × List Int) := f70.s0t K rec x.1 x.2.1 x.2.2.1 x.2.2.2.1 x.2.2.2.2.1 x.2.2.2.2.2
noncomputable def f70.s0.b : Code := (findLoop 0 f70.c).getD .skip
def f70.s0.h : Hint := { lv := [3, 4, 6, 7, 8, 9] }
def f70.s0.ho : Hint := { lv := [4, 9] }
def f70.s0.shp (x : List Int × List Int × List Int × List Int × List Int × List Int) : VS := ⟨[(3, .ptr 0 0), (4, .ptr 1 0), (6, .ptr 2 0), (7, .ptr 3 0), (8, .ptr 4 0), (9, .ptr 5 0)], [(0, ([.ints .u64 4 x.1], 24, .norm)), (1, ([.ints .u64 4 x.2.1], 24, .norm)), (2, ([.ints .u64 4 x.2.2.1], 24, .norm)), (3, ([.ints .u64 4 x.2.2.2.1], 24, .norm)), (4, ([.ints .u64 4 x.2.2.2.2.1], 24, .norm)), (5, ([.ints .u64 4 x.2.2.2.2.2], 24, .norm))], 6⟩
def f70.s0.inX : VS → Option (List Int × List Int × List Int × List Int × List Int × List Int)
  | ⟨[(3, .ptr 0 0), (4, .ptr 1 0), (6, .ptr 2 0), (7, .ptr 3 0), (8, .ptr 4 0), (9, .ptr 5 0)], [(0, ([.ints .u64 4 b0], 24, .norm)), (1, ([.ints .u64 4 b1], 24, .norm)), (2, ([.ints .u64 4 b2], 24, .norm)), (3, ([.ints .u64 4 b3], 24, .norm)), (4, ([.ints .u64 4 b4], 24, .norm)), (5, ([.ints .u64 4 b5], 24, .norm))], 6⟩ => some (b0, b1, b2, b3, b4, b5)
  | _ => none
def f70.s0.o0 (y : List Int × List Int) : VS := ⟨[(4, .ptr 0 0), (9, .ptr 1 0)], [(0, ([.ints .u64 4 y.1], 24, .norm)), (1, ([.ints .u64 4 y.2], 24, .norm))], 2⟩
def f70.s0.des : ∀ α : Type, (List Int × List Int) → (Ex → VS → Option α) → Option α := (des1 (.exit 0) f70.s0.o0)
def f70.s0.out : List Int × List Int → Ex × VS := (fun y => (.exit 0, f70.s0.o0 y))
theorem f70.s0.desOK : ∀ α y (k : Ex → VS → Option α), f70.s0.des α y k = k (f70.s0.out y).1 (f70.s0.out y).2 := (fun _ _ _ => rfl)
def f70.s0.inY : Ex → VS → Option (List Int × List Int)
  | .exit 0, ⟨[(4, .ptr 0 0), (9, .ptr 1 0)], [(0, ([.ints .u64 4 b0], 24, .norm)), (1, ([.ints .u64 4 b1], 24, .norm))], 2⟩ => some (b0, b1)
  | _, _ => none
def f70.lp (K : Nat) : Nat → Option (Hint × Summ) := tabLp [(0, f70.s0.h, summOf (iter (f70.s0 K) K) f70.s0.inX f70.s0.des)]
noncomputable def f70.tab (K : Nat) : List (Nat × Entry) := [(106, (f106.E K)), (57, (f57.E K)), (47, (f47.E K)), (53, (f53.E K)), (107, (f107.E K)), (67, (f67.E K))]
theorem f70.tabOK (K : Nat) : SpecOK Try.prog (tabSp (f70.tab K)) := tab_ok ((tab_cons (f106.ok K) (tab_cons (f57.ok K) (tab_cons (f47.ok K) (tab_cons (f53.ok K) (tab_cons (f107.ok K) (tab_cons (f67.ok K) tab_nil)))))))
theorem f70.s0.eq (K : Nat) (rec : List Int × List Int × List Int × List Int × List Int × List Int → Option (List Int × List Int)) (x : List Int × List Int × List Int × List Int × List Int × List Int) : f70.s0 K rec x = roundL (getA tys) (tabSp (f70.tab K)) 62 0 (f70.lp K) 400 f70.s0.b f70.s0.h f70.s0.ho f70.s0.shp f70.s0.inX f70.s0.inY rec x := by kernel_rfl
theorem f70.s0.lok (K : Nat) : LoopsOK Try.prog 62 0 (f70.lp K) f70.s0.b := loops_ok (by
  have h : loopsIn (f70.lp K) f70.s0.b = [] := by kernel_rfl
  rw [h]; simp)
theorem f70.s0.ok (K : Nat) : SummOK Try.prog 62 0 (summOf (iter (f70.s0 K) K) f70.s0.inX f70.s0.des) f70.s0.b :=
  loop_ok mix tys_ok (f70.tabOK K) (h := f70.s0.h) (ho := f70.s0.ho) (shp := f70.s0.shp) (inX := f70.s0.inX) (des := f70.s0.des) (out := f70.s0.out) (inY := f70.s0.inY) (fuel := 400)
    (by intro st x h; unfold f70.s0.inX at h; split at h <;> simp at h; subst h; rfl)
    (by intro e st y h; unfold f70.s0.inY at h; split at h <;> simp at h <;> subst h <;> rfl)
    f70.s0.desOK (f70.s0.lok K) (f70.s0 K) (f70.s0.eq K) K
theorem f70.loops (K : Nat) : LoopsOK Try.prog 62 0 (f70.lp K) f70.c := loops_ok (by
  have h : loopsIn (f70.lp K) f70.c = [(0, f70.s0.b)] := by kernel_rfl
  rw [h]
  intro p hp
  simp only [List.mem_cons, List.not_mem_nil, or_false] at hp
  rcases hp with rfl
  · exact ⟨_, rfl, (f70.s0.ok K)⟩)
def f70.T (K : Nat) (a0 : List Int) (a1 : List Int) : Option (List Int × Int) :=
  (f106.F K (a0, a0, a1)).bind fun y1 =>
  bif !y1 then
    some ([0, 0, 0, 0], 1)
  else
    (f57.F K (a0, a1)).bind fun y2 =>
    (f47.F K 1).bind fun y3 =>
    bif (!(eqL 4 y2 y3 && true)) then
      some ([0, 0, 0, 0], 7)
    else
      (f47.F K 1).bind fun y5 =>
      (iter (f70.s0 K) K (a1, [0, 0, 0, 0], a1, a0, [0, 0, 0, 0], y5)).bind fun y12 =>
      some (y12.2, 0)
def f70.F (K : Nat) (x : List Int × List Int) : Option (List Int × Int) := f70.T K x.1 x.2
def f70.av (x : List Int × List Int) : List VV := [.agg [.ints .u64 4 x.1], .agg [.ints .u64 4 x.2]]
def f70.bl (_x : List Int × List Int) : List (Nat × Blk) := []
def f70.inA : VS → Option (List Int × List Int)
  | ⟨[(0, .agg [.ints .u64 4 a0]), (1, .agg [.ints .u64 4 a1])], [], 0⟩ => some (a0, a1)
  | _ => none
def f70.o0 (y : List Int × Int) : VS := ⟨[(0, .tup [.agg [.ints .u64 4 y.1], .int .i64 y.2])], [], 0⟩
def f70.des : ∀ α : Type, (List Int × Int) → (VS → Option α) → Option α := (dv1 f70.o0)
def f70.out : List Int × Int → VS := f70.o0
def f70.inR : VS → Option (List Int × Int)
  | ⟨[(0, .tup [.agg [.ints .u64 4 y_0], .int .i64 y_1])], [], 0⟩ => some (y_0, y_1)
  | _ => none
noncomputable def f70.E (K : Nat) : Entry := genE 0 f70.inA (f70.F K) f70.des
theorem f70.eq (K : Nat) (x : List Int × List Int) : f70.F K x = xrun (getA tys) (tabSp (f70.tab K)) Try.f70.ntmps 0 (f70.lp K) 400 f70.c ⟨initL 0 (f70.av x), f70.bl x, 0⟩ (contF (getA tys) 0 Try.f70.results.toList f70.inR) := by kernel_rfl
theorem f70.ok (K : Nat) : EntryOK Try.prog 70 (f70.E K) :=
  gen_ok mix tys_ok (f70.tabOK K) Try.func70 (by kernel_rfl : Try.f70.body = some f70.c) (by kernel_rfl) (f70.loops K) (av := f70.av) (bl := f70.bl) (out := f70.out) (fuel := 400)
    (by intro s x h; unfold f70.inA at h; split at h <;> simp at h; subst h; rfl) (fun _ => Nat.le_of_ble_eq_true rfl)
    (by intro s y h; unfold f70.inR at h; split at h <;> simp at h <;> subst h <;> rfl) (fun _ _ _ => rfl) (f70.eq K)
end Go.Proofs

namespace Go.Proofs
open Go.VM
/-! ### burrow/burrowlaw04.ModsReckoned -/
noncomputable def f17.c : Code := bodyOf Try.f17
def f17.lp (_ : Nat) : Nat → Option (Hint × Summ) := fun _ => none
noncomputable def f17.tab (K : Nat) : List (Nat × Entry) := [(61, (f61.E K)), (62, (f62.E K)), (63, (f63.E K)), (64, (f64.E K)), (65, (f65.E K)), (66, (f66.E K)), (67, (f67.E K)), (68, (f68.E K)), (69, (f69.E K)), (70, (f70.E K))]
theorem f17.tabOK (K : Nat) : SpecOK Try.prog (tabSp (f17.tab K)) := tab_ok ((tab_cons (f61.ok K) (tab_cons (f62.ok K) (tab_cons (f63.ok K) (tab_cons (f64.ok K) (tab_cons (f65.ok K) (tab_cons (f66.ok K) (tab_cons (f67.ok K) (tab_cons (f68.ok K) (tab_cons (f69.ok K) (tab_cons (f70.ok K) tab_nil)))))))))))
theorem f17.loops (K : Nat) : LoopsOK Try.prog 143 0 (f17.lp K) f17.c := loops_ok (by
  have h : loopsIn (f17.lp K) f17.c = [] := by kernel_rfl
  rw [h]; simp)
def f17.T (K : Nat) (a0 : List Int) (a1 : List Int) (a2 : List Int) : Option (Bool) :=
  (f61.F K (a0, a1, a2)).bind fun y1 =>
  (f62.F K (a0, a1, a2)).bind fun y2 =>
  (f63.F K (a0, a1, a2)).bind fun y3 =>
  (f64.F K (a0, a1, a2)).bind fun y4 =>
  (f65.F K (a0, a2)).bind fun y5 =>
  (f66.F K (a0, a1, a2)).bind fun y6 =>
  (f67.F K (a0, a1, a2)).bind fun y7 =>
  (f68.F K (a0, a1, a2)).bind fun y8 =>
  (f69.F K (a0, a1, a2)).bind fun y9 =>
  (f70.F K (a0, a2)).bind fun y10 =>
  bif (eqL 4 y1.1 y6.1 && true) then
    bif (eqL 4 y2.1 y7.1 && true) then
      bif (eqL 4 y3.1 y8.1 && true) then
        bif (eqL 4 y4.1 y9.1 && true) then
          bif (eqL 4 y5.1 y10.1 && true) then
            bif (y1.2 == y6.2) then
              bif (y2.2 == y7.2) then
                bif (y3.2 == y8.2) then
                  bif (y4.2 == y9.2) then
                    some (y5.2 == y10.2)
                  else
                    some false
                else
                  some false
              else
                some false
            else
              some false
          else
            some false
        else
          some false
      else
        some false
    else
      some false
  else
    some false
def f17.F (K : Nat) (x : List Int × List Int × List Int) : Option (Bool) := f17.T K x.1 x.2.1 x.2.2
def f17.av (x : List Int × List Int × List Int) : List VV := [.agg [.ints .u64 4 x.1], .agg [.ints .u64 4 x.2.1], .agg [.ints .u64 4 x.2.2]]
def f17.bl (_x : List Int × List Int × List Int) : List (Nat × Blk) := []
def f17.inA : VS → Option (List Int × List Int × List Int)
  | ⟨[(0, .agg [.ints .u64 4 a0]), (1, .agg [.ints .u64 4 a1]), (2, .agg [.ints .u64 4 a2])], [], 0⟩ => some (a0, a1, a2)
  | _ => none
def f17.o0 (y : Bool) : VS := ⟨[(0, .bool y)], [], 0⟩
def f17.des : ∀ α : Type, Bool → (VS → Option α) → Option α := (dv1 f17.o0)
def f17.out : Bool → VS := f17.o0
def f17.inR : VS → Option (Bool)
  | ⟨[(0, .bool y)], [], 0⟩ => some y
  | _ => none
noncomputable def f17.E (K : Nat) : Entry := genE 0 f17.inA (f17.F K) f17.des
theorem f17.eq (K : Nat) (x : List Int × List Int × List Int) : f17.F K x = xrun (getA tys) (tabSp (f17.tab K)) Try.f17.ntmps 0 (f17.lp K) 400 f17.c ⟨initL 0 (f17.av x), f17.bl x, 0⟩ (contF (getA tys) 0 Try.f17.results.toList f17.inR) := by kernel_rfl
theorem f17.ok (K : Nat) : EntryOK Try.prog 17 (f17.E K) :=
  gen_ok mix tys_ok (f17.tabOK K) Try.func17 (by kernel_rfl : Try.f17.body = some f17.c) (by kernel_rfl) (f17.loops K) (av := f17.av) (bl := f17.bl) (out := f17.out) (fuel := 400)
    (by intro s x h; unfold f17.inA at h; split at h <;> simp at h; subst h; rfl) (fun _ => Nat.le_of_ble_eq_true rfl)
    (by intro s y h; unfold f17.inR at h; split at h <;> simp at h <;> subst h <;> rfl) (fun _ _ _ => rfl) (f17.eq K)
end Go.Proofs
