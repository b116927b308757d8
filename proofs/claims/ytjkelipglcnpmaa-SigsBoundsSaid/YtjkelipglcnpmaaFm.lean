/- Go functions: for each a Lean function with the same answers, and the proof that the call comes to them, with no condition. -/
import Derived.Test.YtjkelipglcnpmaaFl
import Derived.Test.YtjkelipglcnpmaaFd
import Derived.Test.YtjkelipglcnpmaaFe
namespace Go.Proofs
open Go.VM
noncomputable def f105.c : Code := bodyOf Try.f105
def f105.lp (_ : Nat) : Nat → Option (Hint × Summ) := fun _ => none
noncomputable def f105.tab (K : Nat) : List (Nat × Entry) := [(46, (f46.E K))]
theorem f105.tabOK (K : Nat) : SpecOK Try.prog (tabSp (f105.tab K)) := tab_ok ((tab_cons (f46.ok K) tab_nil))
theorem f105.loops (K : Nat) : LoopsOK Try.prog 2 0 (f105.lp K) f105.c := loops_ok (by
  have h : loopsIn (f105.lp K) f105.c = [] := by kernel_rfl
  rw [h]; simp)
def f105.T (K : Nat)  : Option (List Int) :=
  (f46.F K 1).bind fun y1 =>
  some y1
def f105.F (K : Nat) (_x : Unit) : Option (List Int) := f105.T K
def f105.av (_x : Unit) : List VV := []
def f105.bl (_x : Unit) : List (Nat × Blk) := []
def f105.inA : VS → Option (Unit)
  | ⟨[], [], 0⟩ => some ()
  | _ => none
def f105.o0 (y : List Int) : VS := ⟨[(0, .agg [.ints .u64 4 y])], [], 0⟩
def f105.des : ∀ α : Type, (List Int) → (VS → Option α) → Option α := (dv1 f105.o0)
def f105.out : List Int → VS := f105.o0
def f105.inR : VS → Option (List Int)
  | ⟨[(0, .agg [.ints .u64 4 y])], [], 0⟩ => some y
  | _ => none
noncomputable def f105.E (K : Nat) : Entry := genE 0 f105.inA (f105.F K) f105.des
theorem f105.eq (K : Nat) (x : Unit) : f105.F K x = xrun (getA tys) (tabSp (f105.tab K)) Try.f105.ntmps 0 (f105.lp K) 400 f105.c ⟨initL 0 (f105.av x), f105.bl x, 0⟩ (contF (getA tys) 0 Try.f105.results.toList f105.inR) := by kernel_rfl
theorem f105.ok (K : Nat) : EntryOK Try.prog 105 (f105.E K) :=
  gen_ok mix tys_ok (f105.tabOK K) Try.func105 (by kernel_rfl : Try.f105.body = some f105.c) (by kernel_rfl) (f105.loops K) (av := f105.av) (bl := f105.bl) (out := f105.out) (fuel := 400)
    (by intro s x h; unfold f105.inA at h; split at h <;> simp at h; rfl) (fun _ => Nat.le_of_ble_eq_true rfl)
    (by intro s y h; unfold f105.inR at h; split at h <;> simp at h <;> subst h <;> rfl) (fun _ _ _ => rfl) (f105.eq K)
end Go.Proofs

namespace Go.Proofs
open Go.VM
noncomputable def f124.c : Code := bodyOf Try.f124
def f124.lp (_ : Nat) : Nat → Option (Hint × Summ) := fun _ => none
noncomputable def f124.tab (K : Nat) : List (Nat × Entry) := [(42, (f42.E K))]
theorem f124.tabOK (K : Nat) : SpecOK Try.prog (tabSp (f124.tab K)) := tab_ok ((tab_cons (f42.ok K) tab_nil))
theorem f124.loops (K : Nat) : LoopsOK Try.prog 15 0 (f124.lp K) f124.c := loops_ok (by
  have h : loopsIn (f124.lp K) f124.c = [] := by kernel_rfl
  rw [h]; simp)
def f124.T (K : Nat) (a0 : List Int) : Option ((List Int) ⊕ (List Int)) :=
  (f42.F K a0).bind fun y1 =>
  bif (decide (y1 ≤ 64)) then
    some (.inl a0)
  else
    some (.inr a0)
def f124.F (K : Nat) (x : List Int) : Option ((List Int) ⊕ (List Int)) := f124.T K x
def f124.av (x : List Int) : List VV := [.agg [.ints .u64 4 x]]
def f124.bl (_x : List Int) : List (Nat × Blk) := []
def f124.inA : VS → Option (List Int)
  | ⟨[(0, .agg [.ints .u64 4 a0])], [], 0⟩ => some a0
  | _ => none
def f124.o0 (y : List Int) : VS := ⟨[(0, .agg [.fn 132 [.ptr 0 0], .fn 131 [.ptr 0 0], .fn 134 [.ptr 0 0]])], [(0, ([.ints .u64 4 y], 24, .norm))], 1⟩
def f124.o1 (y : List Int) : VS := ⟨[(0, .agg [.fn 132 [.ptr 0 0], .fn 131 [.ptr 0 0], .fn 133 [.ptr 0 0]])], [(0, ([.ints .u64 4 y], 24, .norm))], 1⟩
def f124.des : ∀ α : Type, ((List Int) ⊕ (List Int)) → (VS → Option α) → Option α := (dvA (dv1 f124.o0) (dv1 f124.o1))
def f124.out : (List Int) ⊕ (List Int) → VS := (alt f124.o0 f124.o1)
def f124.inR : VS → Option ((List Int) ⊕ (List Int))
  | ⟨[(0, .agg [.fn 132 [.ptr 0 0], .fn 131 [.ptr 0 0], .fn 134 [.ptr 0 0]])], [(0, ([.ints .u64 4 z0], 24, .norm))], 1⟩ => some (.inl z0)
  | ⟨[(0, .agg [.fn 132 [.ptr 0 0], .fn 131 [.ptr 0 0], .fn 133 [.ptr 0 0]])], [(0, ([.ints .u64 4 z0], 24, .norm))], 1⟩ => some (.inr z0)
  | _ => none
noncomputable def f124.E (K : Nat) : Entry := genE 0 f124.inA (f124.F K) f124.des
theorem f124.eq (K : Nat) (x : List Int) : f124.F K x = xrun (getA tys) (tabSp (f124.tab K)) Try.f124.ntmps 0 (f124.lp K) 400 f124.c ⟨initL 0 (f124.av x), f124.bl x, 0⟩ (contF (getA tys) 0 Try.f124.results.toList f124.inR) := by kernel_rfl
theorem f124.ok (K : Nat) : EntryOK Try.prog 124 (f124.E K) :=
  gen_ok mix tys_ok (f124.tabOK K) Try.func124 (by kernel_rfl : Try.f124.body = some f124.c) (by kernel_rfl) (f124.loops K) (av := f124.av) (bl := f124.bl) (out := f124.out) (fuel := 400)
    (by intro s x h; unfold f124.inA at h; split at h <;> simp at h; subst h; rfl) (fun _ => Nat.le_of_ble_eq_true rfl)
    (by intro s y h; unfold f124.inR at h; split at h <;> simp at h <;> subst h <;> rfl) (dvA_ok (fun _ _ _ => rfl) (fun _ _ _ => rfl)) (f124.eq K)
end Go.Proofs

namespace Go.Proofs
open Go.VM
noncomputable def f104.c : Code := bodyOf Try.f104
def f104.s0t (K : Nat) (rec : Bool × Int × Int × List Int × List Int → Option (Bool × List Int × List Int)) (t6 : Bool) (t14 : Int) (t15 : Int) (b0 : List Int) (b1 : List Int) : Option (Bool × List Int × List Int) :=
  bif (decide (t15 < t14)) then
    bif decide (0 ≤ t15 ∧ t15 < 2) then
      bif t6 then
        (f44.F K ((List.take 4 (List.drop ((Int.toNat t15) * 4) b0)), b1)).bind fun y7 =>
        rec ((decide (y7 < 0)), t14, (IntKind.wrap .i64 (t15 + 1)), b0, b1)
      else
        rec (false, t14, (IntKind.wrap .i64 (t15 + 1)), b0, b1)
    else
      none
  else
    some (t6, b0, b1)
def f104.s0 (K : Nat) (rec : Bool × Int × Int × List Int × List Int → Option (Bool × List Int × List Int)) (x : Bool × Int × Int × List Int × List Int) : Option (Bool × List Int × List Int) := f104.s0t K rec x.1 x.2.1 x.2.2.1 x.2.2.2.1 x.2.2.2.2
noncomputable def f104.s0.b : Code := (findLoop 0 f104.c).getD .skip
def f104.s0.h : Hint := { lv := [2, 4, 6, 13, 14, 15] }
def f104.s0.ho : Hint := { lv := [2, 4, 6] }
def f104.s0.shp (x : Bool × Int × Int × List Int × List Int) : VS := ⟨[(2, .ptr 1 0), (4, .ptr 2 0), (6, .bool x.1), (13, .sl 0 0 2 2), (14, .int .i64 x.2.1), (15, .int .i64 x.2.2.1)], [(0, ([.ints .u64 8 x.2.2.2.1], 24, .norm)), (1, ([.ints .u64 4 x.2.2.2.2], 24, .norm)), (2, ([.raw .nilFunc, .raw .nilFunc, .raw .nilFunc], 95, .norm))], 3⟩
def f104.s0.inX : VS → Option (Bool × Int × Int × List Int × List Int)
  | ⟨[(2, .ptr 1 0), (4, .ptr 2 0), (6, .bool t6), (13, .sl 0 0 2 2), (14, .int .i64 t14), (15, .int .i64 t15)], [(0, ([.ints .u64 8 b0], 24, .norm)), (1, ([.ints .u64 4 b1], 24, .norm)), (2, ([.raw .nilFunc, .raw .nilFunc, .raw .nilFunc], 95, .norm))], 3⟩ => some (t6, t14, t15, b0, b1)
  | _ => none
def f104.s0.o0 (y : Bool × List Int × List Int) : VS := ⟨[(2, .ptr 1 0), (4, .ptr 2 0), (6, .bool y.1)], [(0, ([.ints .u64 8 y.2.1], 24, .norm)), (1, ([.ints .u64 4 y.2.2], 24, .norm)), (2, ([.raw .nilFunc, .raw .nilFunc, .raw .nilFunc], 95, .norm))], 3⟩
def f104.s0.des : ∀ α : Type, (Bool × List Int × List Int) → (Ex → VS → Option α) → Option α := (des1 (.exit 0) f104.s0.o0)
def f104.s0.out : Bool × List Int × List Int → Ex × VS := (fun y => (.exit 0, f104.s0.o0 y))
theorem f104.s0.desOK : ∀ α y (k : Ex → VS → Option α), f104.s0.des α y k = k (f104.s0.out y).1 (f104.s0.out y).2 := (fun _ _ _ => rfl)
def f104.s0.inY : Ex → VS → Option (Bool × List Int × List Int)
  | .exit 0, ⟨[(2, .ptr 1 0), (4, .ptr 2 0), (6, .bool t6)], [(0, ([.ints .u64 8 b0], 24, .norm)), (1, ([.ints .u64 4 b1], 24, .norm)), (2, ([.raw .nilFunc, .raw .nilFunc, .raw .nilFunc], 95, .norm))], 3⟩ => some (t6, b0, b1)
  | _, _ => none
def f104.lp (K : Nat) : Nat → Option (Hint × Summ) := tabLp [(0, f104.s0.h, summOf (iter (f104.s0 K) K) f104.s0.inX f104.s0.des)]
noncomputable def f104.tab (K : Nat) : List (Nat × Entry) := [(105, (f105.E K)), (44, (f44.E K)), (124, (f124.E K))]
theorem f104.tabOK (K : Nat) : SpecOK Try.prog (tabSp (f104.tab K)) := tab_ok ((tab_cons (f105.ok K) (tab_cons (f44.ok K) (tab_cons (f124.ok K) tab_nil))))
theorem f104.s0.eq (K : Nat) (rec : Bool × Int × Int × List Int × List Int → Option (Bool × List Int × List Int)) (x : Bool × Int × Int × List Int × List Int) : f104.s0 K rec x = roundL (getA tys) (tabSp (f104.tab K)) 32 1 (f104.lp K) 400 f104.s0.b f104.s0.h f104.s0.ho f104.s0.shp f104.s0.inX f104.s0.inY rec x := by kernel_rfl
theorem f104.s0.lok (K : Nat) : LoopsOK Try.prog 32 1 (f104.lp K) f104.s0.b := loops_ok (by
  have h : loopsIn (f104.lp K) f104.s0.b = [] := by kernel_rfl
  rw [h]; simp)
theorem f104.s0.ok (K : Nat) : SummOK Try.prog 32 1 (summOf (iter (f104.s0 K) K) f104.s0.inX f104.s0.des) f104.s0.b :=
  loop_ok mix tys_ok (f104.tabOK K) (h := f104.s0.h) (ho := f104.s0.ho) (shp := f104.s0.shp) (inX := f104.s0.inX) (des := f104.s0.des) (out := f104.s0.out) (inY := f104.s0.inY) (fuel := 400)
    (by intro st x h; unfold f104.s0.inX at h; split at h <;> simp at h; subst h; rfl)
    (by intro e st y h; unfold f104.s0.inY at h; split at h <;> simp at h <;> subst h <;> rfl)
    f104.s0.desOK (f104.s0.lok K) (f104.s0 K) (f104.s0.eq K) K
theorem f104.loops (K : Nat) : LoopsOK Try.prog 32 1 (f104.lp K) f104.c := loops_ok (by
  have h : loopsIn (f104.lp K) f104.c = [(0, f104.s0.b)] := by kernel_rfl
  rw [h]
  intro p hp
  simp only [List.mem_cons, List.not_mem_nil, or_false] at hp
  rcases hp with rfl
  · exact ⟨_, rfl, (f104.s0.ok K)⟩)
def f104.T (K : Nat) (a0 : List Int) (m0 : List Int) : Option ((Int × List Int) ⊕ (Int × List Int × List Int) ⊕ (Int × List Int × List Int)) :=
  (f105.F K ()).bind fun y1 =>
  (f44.F K (a0, y1)).bind fun y2 =>
  (iter (f104.s0 K) K ((decide (y2 > 0)), 2, 0, m0, a0)).bind fun y11 =>
  bif !y11.1 then
    some (.inl (1, y11.2.1))
  else
    (f124.F K y11.2.2).bind fun y12 =>
    alt (fun y13 =>
      some (.inr (.inl (0, y11.2.1, y13)))) (fun y14 =>
      some (.inr (.inr (0, y11.2.1, y14)))) y12
def f104.F (K : Nat) (x : List Int × List Int) : Option ((Int × List Int) ⊕ (Int × List Int × List Int) ⊕ (Int × List Int × List Int)) := f104.T K x.1 x.2
def f104.av (x : List Int × List Int) : List VV := [.agg [.ints .u64 4 x.1], .sl 0 0 2 2]
def f104.bl (x : List Int × List Int) : List (Nat × Blk) := [(0, ([.ints .u64 8 x.2], 24, .norm))]
def f104.inA : VS → Option (List Int × List Int)
  | ⟨[(0, .agg [.ints .u64 4 a0]), (1, .sl 0 0 2 2)], [(0, ([.ints .u64 8 m0], 24, .norm))], 1⟩ => some (a0, m0)
  | _ => none
def f104.o0 (y : Int × List Int) : VS := ⟨[(0, .tup [.agg [.raw .nilFunc, .raw .nilFunc, .raw .nilFunc], .int .i64 y.1])], [(0, ([.ints .u64 8 y.2], 24, .norm))], 1⟩
def f104.o1 (y : Int × List Int × List Int) : VS := ⟨[(0, .tup [.agg [.fn 132 [.ptr 1 0], .fn 131 [.ptr 1 0], .fn 134 [.ptr 1 0]], .int .i64 y.1])], [(0, ([.ints .u64 8 y.2.1], 24, .norm)), (1, ([.ints .u64 4 y.2.2], 24, .norm))], 2⟩
def f104.o2 (y : Int × List Int × List Int) : VS := ⟨[(0, .tup [.agg [.fn 132 [.ptr 1 0], .fn 131 [.ptr 1 0], .fn 133 [.ptr 1 0]], .int .i64 y.1])], [(0, ([.ints .u64 8 y.2.1], 24, .norm)), (1, ([.ints .u64 4 y.2.2], 24, .norm))], 2⟩
def f104.des : ∀ α : Type, ((Int × List Int) ⊕ (Int × List Int × List Int) ⊕ (Int × List Int × List Int)) → (VS → Option α) → Option α := (dvA (dv1 f104.o0) (dvA (dv1 f104.o1) (dv1 f104.o2)))
def f104.out : (Int × List Int) ⊕ (Int × List Int × List Int) ⊕ (Int × List Int × List Int) → VS := (alt f104.o0 (alt f104.o1 f104.o2))
def f104.inR : VS → Option ((Int × List Int) ⊕ (Int × List Int × List Int) ⊕ (Int × List Int × List Int))
  | ⟨[(0, .tup [.agg [.raw .nilFunc, .raw .nilFunc, .raw .nilFunc], .int .i64 y])], [(0, ([.ints .u64 8 z0], 24, .norm))], 1⟩ => some (.inl (y, z0))
  | ⟨[(0, .tup [.agg [.fn 132 [.ptr 1 0], .fn 131 [.ptr 1 0], .fn 134 [.ptr 1 0]], .int .i64 y])], [(0, ([.ints .u64 8 z0], 24, .norm)), (1, ([.ints .u64 4 z1], 24, .norm))], 2⟩ => some (.inr (.inl (y, z0, z1)))
  | ⟨[(0, .tup [.agg [.fn 132 [.ptr 1 0], .fn 131 [.ptr 1 0], .fn 133 [.ptr 1 0]], .int .i64 y])], [(0, ([.ints .u64 8 z0], 24, .norm)), (1, ([.ints .u64 4 z1], 24, .norm))], 2⟩ => some (.inr (.inr (y, z0, z1)))
  | _ => none
noncomputable def f104.E (K : Nat) : Entry := genE 1 f104.inA (f104.F K) f104.des
theorem f104.eq (K : Nat) (x : List Int × List Int) : f104.F K x = xrun (getA tys) (tabSp (f104.tab K)) Try.f104.ntmps 1 (f104.lp K) 400 f104.c ⟨initL 0 (f104.av x), f104.bl x, 1⟩ (contF (getA tys) 1 Try.f104.results.toList f104.inR) := by kernel_rfl
theorem f104.ok (K : Nat) : EntryOK Try.prog 104 (f104.E K) :=
  gen_ok mix tys_ok (f104.tabOK K) Try.func104 (by kernel_rfl : Try.f104.body = some f104.c) (by kernel_rfl) (f104.loops K) (av := f104.av) (bl := f104.bl) (out := f104.out) (fuel := 400)
    (by intro s x h; unfold f104.inA at h; split at h <;> simp at h; subst h; rfl) (fun _ => Nat.le_of_ble_eq_true rfl)
    (by intro s y h; unfold f104.inR at h; split at h <;> simp at h <;> subst h <;> rfl) (dvA_ok (fun _ _ _ => rfl) (dvA_ok (fun _ _ _ => rfl) (fun _ _ _ => rfl))) (f104.eq K)
end Go.Proofs

namespace Go.Proofs
open Go.VM
noncomputable def f104v1.c : Code := bodyOf Try.f104
def f104v1.s0t (K : Nat) (rec : Bool × Int × Int × List Int × List Int → Option (Bool × List Int × List Int)) (t6 : Bool) (t14 : Int) (t15 : Int) (b0 : List Int) (b1 : List Int) : Option (Bool × List Int × List Int) :=
  bif (decide (t15 < t14)) then
    bif decide (0 ≤ t15 ∧ t15 < 1) then
      bif t6 then
        (f44.F K ((List.take 4 (List.drop ((Int.toNat t15) * 4) b0)), b1)).bind fun y7 =>
        rec ((decide (y7 < 0)), t14, (IntKind.wrap .i64 (t15 + 1)), b0, b1)
      else
        rec (false, t14, (IntKind.wrap .i64 (t15 + 1)), b0, b1)
    else
      none
  else
    some (t6, b0, b1)
def f104v1.s0 (K : Nat) (rec : Bool × Int × Int × List Int × List Int → Option (Bool × List Int × List Int)) (x : Bool × Int × Int × List Int × List Int) : Option (Bool × List Int × List Int) := f104v1.s0t K rec x.1 x.2.1 x.2.2.1 x.2.2.2.1 x.2.2.2.2
noncomputable def f104v1.s0.b : Code := (findLoop 0 f104v1.c).getD .skip
def f104v1.s0.h : Hint := { lv := [2, 4, 6, 13, 14, 15] }
def f104v1.s0.ho : Hint := { lv := [2, 4, 6] }
def f104v1.s0.shp (x : Bool × Int × Int × List Int × List Int) : VS := ⟨[(2, .ptr 1 0), (4, .ptr 2 0), (6, .bool x.1), (13, .sl 0 0 1 1), (14, .int .i64 x.2.1), (15, .int .i64 x.2.2.1)], [(0, ([.ints .u64 4 x.2.2.2.1], 24, .norm)), (1, ([.ints .u64 4 x.2.2.2.2], 24, .norm)), (2, ([.raw .nilFunc, .raw .nilFunc, .raw .nilFunc], 95, .norm))], 3⟩
def f104v1.s0.inX : VS → Option (Bool × Int × Int × List Int × List Int)
  | ⟨[(2, .ptr 1 0), (4, .ptr 2 0), (6, .bool t6), (13, .sl 0 0 1 1), (14, .int .i64 t14), (15, .int .i64 t15)], [(0, ([.ints .u64 4 b0], 24, .norm)), (1, ([.ints .u64 4 b1], 24, .norm)), (2, ([.raw .nilFunc, .raw .nilFunc, .raw .nilFunc], 95, .norm))], 3⟩ => some (t6, t14, t15, b0, b1)
  | _ => none
def f104v1.s0.o0 (y : Bool × List Int × List Int) : VS := ⟨[(2, .ptr 1 0), (4, .ptr 2 0), (6, .bool y.1)], [(0, ([.ints .u64 4 y.2.1], 24, .norm)), (1, ([.ints .u64 4 y.2.2], 24, .norm)), (2, ([.raw .nilFunc, .raw .nilFunc, .raw .nilFunc], 95, .norm))], 3⟩
def f104v1.s0.des : ∀ α : Type, (Bool × List Int × List Int) → (Ex → VS → Option α) → Option α := (des1 (.exit 0) f104v1.s0.o0)
def f104v1.s0.out : Bool × List Int × List Int → Ex × VS := (fun y => (.exit 0, f104v1.s0.o0 y))
theorem f104v1.s0.desOK : ∀ α y (k : Ex → VS → Option α), f104v1.s0.des α y k = k (f104v1.s0.out y).1 (f104v1.s0.out y).2 := (fun _ _ _ => rfl)
def f104v1.s0.inY : Ex → VS → Option (Bool × List Int × List Int)
  | .exit 0, ⟨[(2, .ptr 1 0), (4, .ptr 2 0), (6, .bool t6)], [(0, ([.ints .u64 4 b0], 24, .norm)), (1, ([.ints .u64 4 b1], 24, .norm)), (2, ([.raw .nilFunc, .raw .nilFunc, .raw .nilFunc], 95, .norm))], 3⟩ => some (t6, b0, b1)
  | _, _ => none
def f104v1.lp (K : Nat) : Nat → Option (Hint × Summ) := tabLp [(0, f104v1.s0.h, summOf (iter (f104v1.s0 K) K) f104v1.s0.inX f104v1.s0.des)]
noncomputable def f104v1.tab (K : Nat) : List (Nat × Entry) := [(105, (f105.E K)), (44, (f44.E K)), (124, (f124.E K))]
theorem f104v1.tabOK (K : Nat) : SpecOK Try.prog (tabSp (f104v1.tab K)) := tab_ok ((tab_cons (f105.ok K) (tab_cons (f44.ok K) (tab_cons (f124.ok K) tab_nil))))
theorem f104v1.s0.eq (K : Nat) (rec : Bool × Int × Int × List Int × List Int → Option (Bool × List Int × List Int)) (x : Bool × Int × Int × List Int × List Int) : f104v1.s0 K rec x = roundL (getA tys) (tabSp (f104v1.tab K)) 32 1 (f104v1.lp K) 400 f104v1.s0.b f104v1.s0.h f104v1.s0.ho f104v1.s0.shp f104v1.s0.inX f104v1.s0.inY rec x := by kernel_rfl
theorem f104v1.s0.lok (K : Nat) : LoopsOK Try.prog 32 1 (f104v1.lp K) f104v1.s0.b := loops_ok (by
  have h : loopsIn (f104v1.lp K) f104v1.s0.b = [] := by kernel_rfl
  rw [h]; simp)
theorem f104v1.s0.ok (K : Nat) : SummOK Try.prog 32 1 (summOf (iter (f104v1.s0 K) K) f104v1.s0.inX f104v1.s0.des) f104v1.s0.b :=
  loop_ok mix tys_ok (f104v1.tabOK K) (h := f104v1.s0.h) (ho := f104v1.s0.ho) (shp := f104v1.s0.shp) (inX := f104v1.s0.inX) (des := f104v1.s0.des) (out := f104v1.s0.out) (inY := f104v1.s0.inY) (fuel := 400)
    (by intro st x h; unfold f104v1.s0.inX at h; split at h <;> simp at h; subst h; rfl)
    (by intro e st y h; unfold f104v1.s0.inY at h; split at h <;> simp at h <;> subst h <;> rfl)
    f104v1.s0.desOK (f104v1.s0.lok K) (f104v1.s0 K) (f104v1.s0.eq K) K
theorem f104v1.loops (K : Nat) : LoopsOK Try.prog 32 1 (f104v1.lp K) f104v1.c := loops_ok (by
  have h : loopsIn (f104v1.lp K) f104v1.c = [(0, f104v1.s0.b)] := by kernel_rfl
  rw [h]
  intro p hp
  simp only [List.mem_cons, List.not_mem_nil, or_false] at hp
  rcases hp with rfl
  · exact ⟨_, rfl, (f104v1.s0.ok K)⟩)
def f104v1.T (K : Nat) (a0 : List Int) (m0 : List Int) : Option ((Int × List Int) ⊕ (Int × List Int × List Int) ⊕ (Int × List Int × List Int)) :=
  (f105.F K ()).bind fun y1 =>
  (f44.F K (a0, y1)).bind fun y2 =>
  (iter (f104v1.s0 K) K ((decide (y2 > 0)), 1, 0, m0, a0)).bind fun y11 =>
  bif !y11.1 then
    some (.inl (1, y11.2.1))
  else
    (f124.F K y11.2.2).bind fun y12 =>
    alt (fun y13 =>
      some (.inr (.inl (0, y11.2.1, y13)))) (fun y14 =>
      some (.inr (.inr (0, y11.2.1, y14)))) y12
def f104v1.F (K : Nat) (x : List Int × List Int) : Option ((Int × List Int) ⊕ (Int × List Int × List Int) ⊕ (Int × List Int × List Int)) := f104v1.T K x.1 x.2
def f104v1.av (x : List Int × List Int) : List VV := [.agg [.ints .u64 4 x.1], .sl 0 0 1 1]
def f104v1.bl (x : List Int × List Int) : List (Nat × Blk) := [(0, ([.ints .u64 4 x.2], 24, .norm))]
def f104v1.inA : VS → Option (List Int × List Int)
  | ⟨[(0, .agg [.ints .u64 4 a0]), (1, .sl 0 0 1 1)], [(0, ([.ints .u64 4 m0], 24, .norm))], 1⟩ => some (a0, m0)
  | _ => none
def f104v1.o0 (y : Int × List Int) : VS := ⟨[(0, .tup [.agg [.raw .nilFunc, .raw .nilFunc, .raw .nilFunc], .int .i64 y.1])], [(0, ([.ints .u64 4 y.2], 24, .norm))], 1⟩
def f104v1.o1 (y : Int × List Int × List Int) : VS := ⟨[(0, .tup [.agg [.fn 132 [.ptr 1 0], .fn 131 [.ptr 1 0], .fn 134 [.ptr 1 0]], .int .i64 y.1])], [(0, ([.ints .u64 4 y.2.1], 24, .norm)), (1, ([.ints .u64 4 y.2.2], 24, .norm))], 2⟩
def f104v1.o2 (y : Int × List Int × List Int) : VS := ⟨[(0, .tup [.agg [.fn 132 [.ptr 1 0], .fn 131 [.ptr 1 0], .fn 133 [.ptr 1 0]], .int .i64 y.1])], [(0, ([.ints .u64 4 y.2.1], 24, .norm)), (1, ([.ints .u64 4 y.2.2], 24, .norm))], 2⟩
def f104v1.des : ∀ α : Type, ((Int × List Int) ⊕ (Int × List Int × List Int) ⊕ (Int × List Int × List Int)) → (VS → Option α) → Option α := (dvA (dv1 f104v1.o0) (dvA (dv1 f104v1.o1) (dv1 f104v1.o2)))
def f104v1.out : (Int × List Int) ⊕ (Int × List Int × List Int) ⊕ (Int × List Int × List Int) → VS := (alt f104v1.o0 (alt f104v1.o1 f104v1.o2))
def f104v1.inR : VS → Option ((Int × List Int) ⊕ (Int × List Int × List Int) ⊕ (Int × List Int × List Int))
  | ⟨[(0, .tup [.agg [.raw .nilFunc, .raw .nilFunc, .raw .nilFunc], .int .i64 y])], [(0, ([.ints .u64 4 z0], 24, .norm))], 1⟩ => some (.inl (y, z0))
  | ⟨[(0, .tup [.agg [.fn 132 [.ptr 1 0], .fn 131 [.ptr 1 0], .fn 134 [.ptr 1 0]], .int .i64 y])], [(0, ([.ints .u64 4 z0], 24, .norm)), (1, ([.ints .u64 4 z1], 24, .norm))], 2⟩ => some (.inr (.inl (y, z0, z1)))
  | ⟨[(0, .tup [.agg [.fn 132 [.ptr 1 0], .fn 131 [.ptr 1 0], .fn 133 [.ptr 1 0]], .int .i64 y])], [(0, ([.ints .u64 4 z0], 24, .norm)), (1, ([.ints .u64 4 z1], 24, .norm))], 2⟩ => some (.inr (.inr (y, z0, z1)))
  | _ => none
noncomputable def f104v1.E (K : Nat) : Entry := genE 1 f104v1.inA (f104v1.F K) f104v1.des
theorem f104v1.eq (K : Nat) (x : List Int × List Int) : f104v1.F K x = xrun (getA tys) (tabSp (f104v1.tab K)) Try.f104.ntmps 1 (f104v1.lp K) 400 f104v1.c ⟨initL 0 (f104v1.av x), f104v1.bl x, 1⟩ (contF (getA tys) 1 Try.f104.results.toList f104v1.inR) := by kernel_rfl
theorem f104v1.ok (K : Nat) : EntryOK Try.prog 104 (f104v1.E K) :=
  gen_ok mix tys_ok (f104v1.tabOK K) Try.func104 (by kernel_rfl : Try.f104.body = some f104v1.c) (by kernel_rfl) (f104v1.loops K) (av := f104v1.av) (bl := f104v1.bl) (out := f104v1.out) (fuel := 400)
    (by intro s x h; unfold f104v1.inA at h; split at h <;> simp at h; subst h; rfl) (fun _ => Nat.le_of_ble_eq_true rfl)
    (by intro s y h; unfold f104v1.inR at h; split at h <;> simp at h <;> subst h <;> rfl) (dvA_ok (fun _ _ _ => rfl) (dvA_ok (fun _ _ _ => rfl) (fun _ _ _ => rfl))) (f104v1.eq K)
end Go.Proofs

namespace Go.Proofs
open Go.VM
end Go.Proofs

namespace Go.Proofs
open Go.VM
noncomputable def f132.c : Code := bodyOf Try.f132
def f132.lp (_ : Nat) : Nat → Option (Hint × Summ) := fun _ => none
noncomputable def f132.tab (K : Nat) : List (Nat × Entry) := [(34, (f34.E K)), (44, (f44.E K)), (32, (f32.E K))]
theorem f132.tabOK (K : Nat) : SpecOK Try.prog (tabSp (f132.tab K)) := tab_ok ((tab_cons (f34.ok K) (tab_cons (f44.ok K) (tab_cons (f32.ok K) tab_nil))))
theorem f132.loops (K : Nat) : LoopsOK Try.prog 32 1 (f132.lp K) f132.c := loops_ok (by
  have h : loopsIn (f132.lp K) f132.c = [] := by kernel_rfl
  rw [h]; simp)
def f132.T (K : Nat) (a0 : List Int) (a1 : List Int) (m0 : List Int) : Option (List Int × List Int) :=
  (f34.F K (m0, a1)).bind fun y1 =>
  (f44.F K (a0, y1.1)).bind fun y2 =>
  bif (decide (y2 ≥ 0)) then
    (f34.F K (a0, y1.1)).bind fun y4 =>
    some (y4.1, m0)
  else
    (f32.F K (a0, a1)).bind fun y5 =>
    some (y5.1, m0)
def f132.F (K : Nat) (x : List Int × List Int × List Int) : Option (List Int × List Int) := f132.T K x.1 x.2.1 x.2.2
def f132.av (x : List Int × List Int × List Int) : List VV := [.agg [.ints .u64 4 x.1], .agg [.ints .u64 4 x.2.1], .ptr 0 0]
def f132.bl (x : List Int × List Int × List Int) : List (Nat × Blk) := [(0, ([.ints .u64 4 x.2.2], 24, .norm))]
def f132.inA : VS → Option (List Int × List Int × List Int)
  | ⟨[(0, .agg [.ints .u64 4 a0]), (1, .agg [.ints .u64 4 a1]), (2, .ptr 0 0)], [(0, ([.ints .u64 4 m0], 24, .norm))], 1⟩ => some (a0, a1, m0)
  | _ => none
def f132.o0 (y : List Int × List Int) : VS := ⟨[(0, .agg [.ints .u64 4 y.1])], [(0, ([.ints .u64 4 y.2], 24, .norm))], 1⟩
def f132.des : ∀ α : Type, (List Int × List Int) → (VS → Option α) → Option α := (dv1 f132.o0)
def f132.out : List Int × List Int → VS := f132.o0
def f132.inR : VS → Option (List Int × List Int)
  | ⟨[(0, .agg [.ints .u64 4 y])], [(0, ([.ints .u64 4 z0], 24, .norm))], 1⟩ => some (y, z0)
  | _ => none
noncomputable def f132.E (K : Nat) : Entry := genE 1 f132.inA (f132.F K) f132.des
theorem f132.eq (K : Nat) (x : List Int × List Int × List Int) : f132.F K x = xrun (getA tys) (tabSp (f132.tab K)) Try.f132.ntmps 1 (f132.lp K) 400 f132.c ⟨initL 0 (f132.av x), f132.bl x, 1⟩ (contF (getA tys) 1 Try.f132.results.toList f132.inR) := by kernel_rfl
theorem f132.ok (K : Nat) : EntryOK Try.prog 132 (f132.E K) :=
  gen_ok mix tys_ok (f132.tabOK K) Try.func132 (by kernel_rfl : Try.f132.body = some f132.c) (by kernel_rfl) (f132.loops K) (av := f132.av) (bl := f132.bl) (out := f132.out) (fuel := 400)
    (by intro s x h; unfold f132.inA at h; split at h <;> simp at h; subst h; rfl) (fun _ => Nat.le_of_ble_eq_true rfl)
    (by intro s y h; unfold f132.inR at h; split at h <;> simp at h <;> subst h <;> rfl) (fun _ _ _ => rfl) (f132.eq K)
end Go.Proofs

namespace Go.Proofs
open Go.VM
noncomputable def f133.c : Code := bodyOf Try.f133
def f133.lp (_ : Nat) : Nat → Option (Hint × Summ) := fun _ => none
noncomputable def f133.tab (K : Nat) : List (Nat × Entry) := [(36, (f36.E K)), (54, (f54.E K))]
theorem f133.tabOK (K : Nat) : SpecOK Try.prog (tabSp (f133.tab K)) := tab_ok ((tab_cons (f36.ok K) (tab_cons (f54.ok K) tab_nil)))
theorem f133.loops (K : Nat) : LoopsOK Try.prog 24 1 (f133.lp K) f133.c := loops_ok (by
  have h : loopsIn (f133.lp K) f133.c = [] := by kernel_rfl
  rw [h]; simp)
def f133.T (K : Nat) (a0 : List Int) (a1 : List Int) (m0 : List Int) : Option (List Int × List Int) :=
  (f36.F K (a0, a1)).bind fun y1 =>
  (f54.F K (y1.1, y1.2, m0)).bind fun y2 =>
  some (y2.1, m0)
def f133.F (K : Nat) (x : List Int × List Int × List Int) : Option (List Int × List Int) := f133.T K x.1 x.2.1 x.2.2
def f133.av (x : List Int × List Int × List Int) : List VV := [.agg [.ints .u64 4 x.1], .agg [.ints .u64 4 x.2.1], .ptr 0 0]
def f133.bl (x : List Int × List Int × List Int) : List (Nat × Blk) := [(0, ([.ints .u64 4 x.2.2], 24, .norm))]
def f133.inA : VS → Option (List Int × List Int × List Int)
  | ⟨[(0, .agg [.ints .u64 4 a0]), (1, .agg [.ints .u64 4 a1]), (2, .ptr 0 0)], [(0, ([.ints .u64 4 m0], 24, .norm))], 1⟩ => some (a0, a1, m0)
  | _ => none
def f133.o0 (y : List Int × List Int) : VS := ⟨[(0, .agg [.ints .u64 4 y.1])], [(0, ([.ints .u64 4 y.2], 24, .norm))], 1⟩
def f133.des : ∀ α : Type, (List Int × List Int) → (VS → Option α) → Option α := (dv1 f133.o0)
def f133.out : List Int × List Int → VS := f133.o0
def f133.inR : VS → Option (List Int × List Int)
  | ⟨[(0, .agg [.ints .u64 4 y])], [(0, ([.ints .u64 4 z0], 24, .norm))], 1⟩ => some (y, z0)
  | _ => none
noncomputable def f133.E (K : Nat) : Entry := genE 1 f133.inA (f133.F K) f133.des
theorem f133.eq (K : Nat) (x : List Int × List Int × List Int) : f133.F K x = xrun (getA tys) (tabSp (f133.tab K)) Try.f133.ntmps 1 (f133.lp K) 400 f133.c ⟨initL 0 (f133.av x), f133.bl x, 1⟩ (contF (getA tys) 1 Try.f133.results.toList f133.inR) := by kernel_rfl
theorem f133.ok (K : Nat) : EntryOK Try.prog 133 (f133.E K) :=
  gen_ok mix tys_ok (f133.tabOK K) Try.func133 (by kernel_rfl : Try.f133.body = some f133.c) (by kernel_rfl) (f133.loops K) (av := f133.av) (bl := f133.bl) (out := f133.out) (fuel := 400)
    (by intro s x h; unfold f133.inA at h; split at h <;> simp at h; subst h; rfl) (fun _ => Nat.le_of_ble_eq_true rfl)
    (by intro s y h; unfold f133.inR at h; split at h <;> simp at h <;> subst h <;> rfl) (fun _ _ _ => rfl) (f133.eq K)
end Go.Proofs

namespace Go.Proofs
open Go.VM
noncomputable def f134.c : Code := bodyOf Try.f134
def f134.lp (_ : Nat) : Nat → Option (Hint × Summ) := fun _ => none
noncomputable def f134.tab (K : Nat) : List (Nat × Entry) := [(125, (f125.E K)), (135, (f135.E K)), (46, (f46.E K))]
theorem f134.tabOK (K : Nat) : SpecOK Try.prog (tabSp (f134.tab K)) := tab_ok ((tab_cons (f125.ok K) (tab_cons (f135.ok K) (tab_cons (f46.ok K) tab_nil))))
theorem f134.loops (K : Nat) : LoopsOK Try.prog 22 1 (f134.lp K) f134.c := loops_ok (by
  have h : loopsIn (f134.lp K) f134.c = [] := by kernel_rfl
  rw [h]; simp)
def f134.T (K : Nat) (a0 : List Int) (a1 : List Int) (m0 : List Int) : Option (List Int × List Int) :=
  (f125.F K ((List.getD a0 0 0), (List.getD a1 0 0))).bind fun y3 =>
  (f135.F K (y3.1, y3.2, (List.getD m0 0 0))).bind fun y5 =>
  (f46.F K y5).bind fun y6 =>
  some (y6, m0)
def f134.F (K : Nat) (x : List Int × List Int × List Int) : Option (List Int × List Int) := f134.T K x.1 x.2.1 x.2.2
def f134.av (x : List Int × List Int × List Int) : List VV := [.agg [.ints .u64 4 x.1], .agg [.ints .u64 4 x.2.1], .ptr 0 0]
def f134.bl (x : List Int × List Int × List Int) : List (Nat × Blk) := [(0, ([.ints .u64 4 x.2.2], 24, .norm))]
def f134.inA : VS → Option (List Int × List Int × List Int)
  | ⟨[(0, .agg [.ints .u64 4 a0]), (1, .agg [.ints .u64 4 a1]), (2, .ptr 0 0)], [(0, ([.ints .u64 4 m0], 24, .norm))], 1⟩ => some (a0, a1, m0)
  | _ => none
def f134.o0 (y : List Int × List Int) : VS := ⟨[(0, .agg [.ints .u64 4 y.1])], [(0, ([.ints .u64 4 y.2], 24, .norm))], 1⟩
def f134.des : ∀ α : Type, (List Int × List Int) → (VS → Option α) → Option α := (dv1 f134.o0)
def f134.out : List Int × List Int → VS := f134.o0
def f134.inR : VS → Option (List Int × List Int)
  | ⟨[(0, .agg [.ints .u64 4 y])], [(0, ([.ints .u64 4 z0], 24, .norm))], 1⟩ => some (y, z0)
  | _ => none
noncomputable def f134.E (K : Nat) : Entry := genE 1 f134.inA (f134.F K) f134.des
theorem f134.eq (K : Nat) (x : List Int × List Int × List Int) : f134.F K x = xrun (getA tys) (tabSp (f134.tab K)) Try.f134.ntmps 1 (f134.lp K) 400 f134.c ⟨initL 0 (f134.av x), f134.bl x, 1⟩ (contF (getA tys) 1 Try.f134.results.toList f134.inR) := by kernel_rfl
theorem f134.ok (K : Nat) : EntryOK Try.prog 134 (f134.E K) :=
  gen_ok mix tys_ok (f134.tabOK K) Try.func134 (by kernel_rfl : Try.f134.body = some f134.c) (by kernel_rfl) (f134.loops K) (av := f134.av) (bl := f134.bl) (out := f134.out) (fuel := 400)
    (by intro s x h; unfold f134.inA at h; split at h <;> simp at h; subst h; rfl) (fun _ => Nat.le_of_ble_eq_true rfl)
    (by intro s y h; unfold f134.inR at h; split at h <;> simp at h <;> subst h <;> rfl) (fun _ _ _ => rfl) (f134.eq K)
end Go.Proofs

namespace Go.Proofs
open Go.VM
noncomputable def f61.c : Code := bodyOf Try.f61
def f61.lp (_ : Nat) : Nat → Option (Hint × Summ) := fun _ => none
noncomputable def f61.tab (K : Nat) : List (Nat × Entry) := [(104, (f104.E K)), (132, (f132.E K))]
theorem f61.tabOK (K : Nat) : SpecOK Try.prog (tabSp (f61.tab K)) := tab_ok ((tab_cons (f104.ok K) (tab_cons (f132.ok K) tab_nil)))
theorem f61.loops (K : Nat) : LoopsOK Try.prog 27 0 (f61.lp K) f61.c := loops_ok (by
  have h : loopsIn (f61.lp K) f61.c = [] := by kernel_rfl
  rw [h]; simp)
def f61.T (K : Nat) (a0 : List Int) (a1 : List Int) (a2 : List Int) : Option (List Int × Int) :=
  (f104.F K (a2, (spl (spl [] 0 4 a0) 4 4 a1))).bind fun y2 =>
  alt (fun y3 =>
    bif (y3.1 != 0) then
      some ([0, 0, 0, 0], y3.1)
    else
      none) (fun y4 =>
    alt (fun y5 =>
      bif (y5.1 != 0) then
        some ([0, 0, 0, 0], y5.1)
      else
        (f132.F K (a0, a1, y5.2.2)).bind fun y7 =>
        some (y7.1, 0)) (fun y6 =>
      bif (y6.1 != 0) then
        some ([0, 0, 0, 0], y6.1)
      else
        (f132.F K (a0, a1, y6.2.2)).bind fun y8 =>
        some (y8.1, 0)) y4) y2
def f61.F (K : Nat) (x : List Int × List Int × List Int) : Option (List Int × Int) := f61.T K x.1 x.2.1 x.2.2
def f61.av (x : List Int × List Int × List Int) : List VV := [.agg [.ints .u64 4 x.1], .agg [.ints .u64 4 x.2.1], .agg [.ints .u64 4 x.2.2]]
def f61.bl (_x : List Int × List Int × List Int) : List (Nat × Blk) := []
def f61.inA : VS → Option (List Int × List Int × List Int)
  | ⟨[(0, .agg [.ints .u64 4 a0]), (1, .agg [.ints .u64 4 a1]), (2, .agg [.ints .u64 4 a2])], [], 0⟩ => some (a0, a1, a2)
  | _ => none
def f61.o0 (y : List Int × Int) : VS := ⟨[(0, .tup [.agg [.ints .u64 4 y.1], .int .i64 y.2])], [], 0⟩
def f61.des : ∀ α : Type, (List Int × Int) → (VS → Option α) → Option α := (dv1 f61.o0)
def f61.out : List Int × Int → VS := f61.o0
def f61.inR : VS → Option (List Int × Int)
  | ⟨[(0, .tup [.agg [.ints .u64 4 y_0], .int .i64 y_1])], [], 0⟩ => some (y_0, y_1)
  | _ => none
noncomputable def f61.E (K : Nat) : Entry := genE 0 f61.inA (f61.F K) f61.des
theorem f61.eq (K : Nat) (x : List Int × List Int × List Int) : f61.F K x = xrun (getA tys) (tabSp (f61.tab K)) Try.f61.ntmps 0 (f61.lp K) 400 f61.c ⟨initL 0 (f61.av x), f61.bl x, 0⟩ (contF (getA tys) 0 Try.f61.results.toList f61.inR) := by kernel_rfl
theorem f61.ok (K : Nat) : EntryOK Try.prog 61 (f61.E K) :=
  gen_ok mix tys_ok (f61.tabOK K) Try.func61 (by kernel_rfl : Try.f61.body = some f61.c) (by kernel_rfl) (f61.loops K) (av := f61.av) (bl := f61.bl) (out := f61.out) (fuel := 400)
    (by intro s x h; unfold f61.inA at h; split at h <;> simp at h; subst h; rfl) (fun _ => Nat.le_of_ble_eq_true rfl)
    (by intro s y h; unfold f61.inR at h; split at h <;> simp at h <;> subst h <;> rfl) (fun _ _ _ => rfl) (f61.eq K)
end Go.Proofs

namespace Go.Proofs
open Go.VM
end Go.Proofs

namespace Go.Proofs
open Go.VM
noncomputable def f63.c : Code := bodyOf Try.f63
def f63.lp (_ : Nat) : Nat → Option (Hint × Summ) := fun _ => none
noncomputable def f63.tab (K : Nat) : List (Nat × Entry) := [(104, (f104.E K)), (134, (f134.E K)), (133, (f133.E K))]
theorem f63.tabOK (K : Nat) : SpecOK Try.prog (tabSp (f63.tab K)) := tab_ok ((tab_cons (f104.ok K) (tab_cons (f134.ok K) (tab_cons (f133.ok K) tab_nil))))
theorem f63.loops (K : Nat) : LoopsOK Try.prog 27 0 (f63.lp K) f63.c := loops_ok (by
  have h : loopsIn (f63.lp K) f63.c = [] := by kernel_rfl
  rw [h]; simp)
def f63.T (K : Nat) (a0 : List Int) (a1 : List Int) (a2 : List Int) : Option (List Int × Int) :=
  (f104.F K (a2, (spl (spl [] 0 4 a0) 4 4 a1))).bind fun y2 =>
  alt (fun y3 =>
    bif (y3.1 != 0) then
      some ([0, 0, 0, 0], y3.1)
    else
      none) (fun y4 =>
    alt (fun y5 =>
      bif (y5.1 != 0) then
        some ([0, 0, 0, 0], y5.1)
      else
        (f134.F K (a0, a1, y5.2.2)).bind fun y7 =>
        some (y7.1, 0)) (fun y6 =>
      bif (y6.1 != 0) then
        some ([0, 0, 0, 0], y6.1)
      else
        (f133.F K (a0, a1, y6.2.2)).bind fun y8 =>
        some (y8.1, 0)) y4) y2
def f63.F (K : Nat) (x : List Int × List Int × List Int) : Option (List Int × Int) := f63.T K x.1 x.2.1 x.2.2
def f63.av (x : List Int × List Int × List Int) : List VV := [.agg [.ints .u64 4 x.1], .agg [.ints .u64 4 x.2.1], .agg [.ints .u64 4 x.2.2]]
def f63.bl (_x : List Int × List Int × List Int) : List (Nat × Blk) := []
def f63.inA : VS → Option (List Int × List Int × List Int)
  | ⟨[(0, .agg [.ints .u64 4 a0]), (1, .agg [.ints .u64 4 a1]), (2, .agg [.ints .u64 4 a2])], [], 0⟩ => some (a0, a1, a2)
  | _ => none
def f63.o0 (y : List Int × Int) : VS := ⟨[(0, .tup [.agg [.ints .u64 4 y.1], .int .i64 y.2])], [], 0⟩
def f63.des : ∀ α : Type, (List Int × Int) → (VS → Option α) → Option α := (dv1 f63.o0)
def f63.out : List Int × Int → VS := f63.o0
def f63.inR : VS → Option (List Int × Int)
  | ⟨[(0, .tup [.agg [.ints .u64 4 y_0], .int .i64 y_1])], [], 0⟩ => some (y_0, y_1)
  | _ => none
noncomputable def f63.E (K : Nat) : Entry := genE 0 f63.inA (f63.F K) f63.des
theorem f63.eq (K : Nat) (x : List Int × List Int × List Int) : f63.F K x = xrun (getA tys) (tabSp (f63.tab K)) Try.f63.ntmps 0 (f63.lp K) 400 f63.c ⟨initL 0 (f63.av x), f63.bl x, 0⟩ (contF (getA tys) 0 Try.f63.results.toList f63.inR) := by kernel_rfl
theorem f63.ok (K : Nat) : EntryOK Try.prog 63 (f63.E K) :=
  gen_ok mix tys_ok (f63.tabOK K) Try.func63 (by kernel_rfl : Try.f63.body = some f63.c) (by kernel_rfl) (f63.loops K) (av := f63.av) (bl := f63.bl) (out := f63.out) (fuel := 400)
    (by intro s x h; unfold f63.inA at h; split at h <;> simp at h; subst h; rfl) (fun _ => Nat.le_of_ble_eq_true rfl)
    (by intro s y h; unfold f63.inR at h; split at h <;> simp at h <;> subst h <;> rfl) (fun _ _ _ => rfl) (f63.eq K)
end Go.Proofs

namespace Go.Proofs
open Go.VM
noncomputable def f64.c : Code := bodyOf Try.f64
def f64.s0t (K : Nat) (_rec : Int × Int × List Int × List Int × List Int × List Int → Option (List Int × List Int)) (t25 : Int) (t26 : Int) (_b0 : List Int) (b1 : List Int) (b2 : List Int) (b4 : List Int) : Option (List Int × List Int) :=
  bif (decide (t26 < t25)) then
    (f40.F K (b1, t26)).bind fun y7 =>
    bif (y7 == 1) then
      none
    else
      none
  else
    some (b2, b4)
def f64.s0 (K : Nat) (rec : Int × Int × List Int × List Int × List Int × List Int → Option (List Int × List Int)) (x : Int × Int × List Int × List Int × List Int × List Int) : Option (List Int × List Int) := f64.s0t K rec x.1 x.2.1 x.2.2.1 x.2.2.2.1 x.2.2.2.2.1 x.2.2.2.2.2
noncomputable def f64.s0.b : Code := (findLoop 0 f64.c).getD .skip
def f64.s0.h : Hint := { lv := [3, 4, 6, 8, 10, 25, 26] }
def f64.s0.ho : Hint := { lv := [6, 10] }
def f64.s0.shp (x : Int × Int × List Int × List Int × List Int × List Int) : VS := ⟨[(3, .ptr 0 0), (4, .ptr 1 0), (6, .ptr 2 0), (8, .ptr 3 0), (10, .ptr 4 0), (25, .int .i64 x.1), (26, .int .i64 x.2.1)], [(0, ([.ints .u64 4 x.2.2.1], 24, .norm)), (1, ([.ints .u64 4 x.2.2.2.1], 24, .norm)), (2, ([.ints .u64 4 x.2.2.2.2.1], 24, .norm)), (3, ([.raw .nilFunc, .raw .nilFunc, .raw .nilFunc], 95, .norm)), (4, ([.ints .u64 4 x.2.2.2.2.2], 24, .norm))], 5⟩
def f64.s0.inX : VS → Option (Int × Int × List Int × List Int × List Int × List Int)
  | ⟨[(3, .ptr 0 0), (4, .ptr 1 0), (6, .ptr 2 0), (8, .ptr 3 0), (10, .ptr 4 0), (25, .int .i64 t25), (26, .int .i64 t26)], [(0, ([.ints .u64 4 b0], 24, .norm)), (1, ([.ints .u64 4 b1], 24, .norm)), (2, ([.ints .u64 4 b2], 24, .norm)), (3, ([.raw .nilFunc, .raw .nilFunc, .raw .nilFunc], 95, .norm)), (4, ([.ints .u64 4 b4], 24, .norm))], 5⟩ => some (t25, t26, b0, b1, b2, b4)
  | _ => none
def f64.s0.o0 (y : List Int × List Int) : VS := ⟨[(6, .ptr 0 0), (10, .ptr 1 0)], [(0, ([.ints .u64 4 y.1], 24, .norm)), (1, ([.ints .u64 4 y.2], 24, .norm))], 2⟩
def f64.s0.des : ∀ α : Type, (List Int × List Int) → (Ex → VS → Option α) → Option α := (des1 (.exit 0) f64.s0.o0)
def f64.s0.out : List Int × List Int → Ex × VS := (fun y => (.exit 0, f64.s0.o0 y))
theorem f64.s0.desOK : ∀ α y (k : Ex → VS → Option α), f64.s0.des α y k = k (f64.s0.out y).1 (f64.s0.out y).2 := (fun _ _ _ => rfl)
def f64.s0.inY : Ex → VS → Option (List Int × List Int)
  | .exit 0, ⟨[(6, .ptr 0 0), (10, .ptr 1 0)], [(0, ([.ints .u64 4 b0], 24, .norm)), (1, ([.ints .u64 4 b1], 24, .norm))], 2⟩ => some (b0, b1)
  | _, _ => none
def f64.s0bt (K : Nat) (rec : Int × Int × List Int × List Int × List Int × List Int × List Int → Option (List Int × List Int)) (t25 : Int) (t26 : Int) (b0 : List Int) (b1 : List Int) (b2 : List Int) (b4 : List Int) (b5 : List Int) : Option (List Int × List Int) :=
  bif (decide (t26 < t25)) then
    (f40.F K (b1, t26)).bind fun y14 =>
    bif (y14 == 1) then
      (f134.F K (b4, b0, b5)).bind fun y15 =>
      (f134.F K (b0, b0, y15.2)).bind fun y16 =>
      rec (t25, (IntKind.wrap .i64 (t26 + 1)), y16.1, b1, b2, y15.1, y16.2)
    else
      (f134.F K (b0, b0, b5)).bind fun y18 =>
      rec (t25, (IntKind.wrap .i64 (t26 + 1)), y18.1, b1, b2, b4, y18.2)
  else
    some (b2, b4)
def f64.s0b (K : Nat) (rec : Int × Int × List Int × List Int × List Int × List Int × List Int → Option (List Int × List Int)) (x : Int × Int × List Int × List Int × List Int × List Int × List Int) : Option (List Int × List Int) := f64.s0bt K rec x.1 x.2.1 x.2.2.1 x.2.2.2.1 x.2.2.2.2.1 x.2.2.2.2.2.1 x.2.2.2.2.2.2
noncomputable def f64.s0b.b : Code := (findLoop 0 f64.c).getD .skip
def f64.s0b.h : Hint := { lv := [3, 4, 6, 8, 10, 25, 26] }
def f64.s0b.ho : Hint := { lv := [6, 10] }
def f64.s0b.shp (x : Int × Int × List Int × List Int × List Int × List Int × List Int) : VS := ⟨[(3, .ptr 0 0), (4, .ptr 1 0), (6, .ptr 2 0), (8, .ptr 3 0), (10, .ptr 4 0), (25, .int .i64 x.1), (26, .int .i64 x.2.1)], [(0, ([.ints .u64 4 x.2.2.1], 24, .norm)), (1, ([.ints .u64 4 x.2.2.2.1], 24, .norm)), (2, ([.ints .u64 4 x.2.2.2.2.1], 24, .norm)), (3, ([.fn 132 [.ptr 5 0], .fn 131 [.ptr 5 0], .fn 134 [.ptr 5 0]], 95, .norm)), (4, ([.ints .u64 4 x.2.2.2.2.2.1], 24, .norm)), (5, ([.ints .u64 4 x.2.2.2.2.2.2], 24, .norm))], 6⟩
def f64.s0b.inX : VS → Option (Int × Int × List Int × List Int × List Int × List Int × List Int)
  | ⟨[(3, .ptr 0 0), (4, .ptr 1 0), (6, .ptr 2 0), (8, .ptr 3 0), (10, .ptr 4 0), (25, .int .i64 t25), (26, .int .i64 t26)], [(0, ([.ints .u64 4 b0], 24, .norm)), (1, ([.ints .u64 4 b1], 24, .norm)), (2, ([.ints .u64 4 b2], 24, .norm)), (3, ([.fn 132 [.ptr 5 0], .fn 131 [.ptr 5 0], .fn 134 [.ptr 5 0]], 95, .norm)), (4, ([.ints .u64 4 b4], 24, .norm)), (5, ([.ints .u64 4 b5], 24, .norm))], 6⟩ => some (t25, t26, b0, b1, b2, b4, b5)
  | _ => none
def f64.s0b.o0 (y : List Int × List Int) : VS := ⟨[(6, .ptr 0 0), (10, .ptr 1 0)], [(0, ([.ints .u64 4 y.1], 24, .norm)), (1, ([.ints .u64 4 y.2], 24, .norm))], 2⟩
def f64.s0b.des : ∀ α : Type, (List Int × List Int) → (Ex → VS → Option α) → Option α := (des1 (.exit 0) f64.s0b.o0)
def f64.s0b.out : List Int × List Int → Ex × VS := (fun y => (.exit 0, f64.s0b.o0 y))
theorem f64.s0b.desOK : ∀ α y (k : Ex → VS → Option α), f64.s0b.des α y k = k (f64.s0b.out y).1 (f64.s0b.out y).2 := (fun _ _ _ => rfl)
def f64.s0b.inY : Ex → VS → Option (List Int × List Int)
  | .exit 0, ⟨[(6, .ptr 0 0), (10, .ptr 1 0)], [(0, ([.ints .u64 4 b0], 24, .norm)), (1, ([.ints .u64 4 b1], 24, .norm))], 2⟩ => some (b0, b1)
  | _, _ => none
def f64.s0ct (K : Nat) (rec : Int × Int × List Int × List Int × List Int × List Int × List Int → Option (List Int × List Int)) (t25 : Int) (t26 : Int) (b0 : List Int) (b1 : List Int) (b2 : List Int) (b4 : List Int) (b5 : List Int) : Option (List Int × List Int) :=
  bif (decide (t26 < t25)) then
    (f40.F K (b1, t26)).bind fun y25 =>
    bif (y25 == 1) then
      (f133.F K (b4, b0, b5)).bind fun y26 =>
      (f133.F K (b0, b0, y26.2)).bind fun y27 =>
      rec (t25, (IntKind.wrap .i64 (t26 + 1)), y27.1, b1, b2, y26.1, y27.2)
    else
      (f133.F K (b0, b0, b5)).bind fun y29 =>
      rec (t25, (IntKind.wrap .i64 (t26 + 1)), y29.1, b1, b2, b4, y29.2)
  else
    some (b2, b4)
def f64.s0c (K : Nat) (rec : Int × Int × List Int × List Int × List Int × List Int × List Int → Option (List Int × List Int)) (x : Int × Int × List Int × List Int × List Int × List Int × List Int) : Option (List Int × List Int) := f64.s0ct K rec x.1 x.2.1 x.2.2.1 x.2.2.2.1 x.2.2.2.2.1 x.2.2.2.2.2.1 x.2.2.2.2.2.2
noncomputable def f64.s0c.b : Code := (findLoop 0 f64.c).getD .skip
def f64.s0c.h : Hint := { lv := [3, 4, 6, 8, 10, 25, 26] }
def f64.s0c.ho : Hint := { lv := [6, 10] }
def f64.s0c.shp (x : Int × Int × List Int × List Int × List Int × List Int × List Int) : VS := ⟨[(3, .ptr 0 0), (4, .ptr 1 0), (6, .ptr 2 0), (8, .ptr 3 0), (10, .ptr 4 0), (25, .int .i64 x.1), (26, .int .i64 x.2.1)], [(0, ([.ints .u64 4 x.2.2.1], 24, .norm)), (1, ([.ints .u64 4 x.2.2.2.1], 24, .norm)), (2, ([.ints .u64 4 x.2.2.2.2.1], 24, .norm)), (3, ([.fn 132 [.ptr 5 0], .fn 131 [.ptr 5 0], .fn 133 [.ptr 5 0]], 95, .norm)), (4, ([.ints .u64 4 x.2.2.2.2.2.1], 24, .norm)), (5, ([.ints .u64 4 x.2.2.2.2.2.2], 24, .norm))], 6⟩
def f64.s0c.inX : VS → Option (Int × Int × List Int × List Int × List Int × List Int × List Int)
  | ⟨[(3, .ptr 0 0), (4, .ptr 1 0), (6, .ptr 2 0), (8, .ptr 3 0), (10, .ptr 4 0), (25, .int .i64 t25), (26, .int .i64 t26)], [(0, ([.ints .u64 4 b0], 24, .norm)), (1, ([.ints .u64 4 b1], 24, .norm)), (2, ([.ints .u64 4 b2], 24, .norm)), (3, ([.fn 132 [.ptr 5 0], .fn 131 [.ptr 5 0], .fn 133 [.ptr 5 0]], 95, .norm)), (4, ([.ints .u64 4 b4], 24, .norm)), (5, ([.ints .u64 4 b5], 24, .norm))], 6⟩ => some (t25, t26, b0, b1, b2, b4, b5)
  | _ => none
def f64.s0c.o0 (y : List Int × List Int) : VS := ⟨[(6, .ptr 0 0), (10, .ptr 1 0)], [(0, ([.ints .u64 4 y.1], 24, .norm)), (1, ([.ints .u64 4 y.2], 24, .norm))], 2⟩
def f64.s0c.des : ∀ α : Type, (List Int × List Int) → (Ex → VS → Option α) → Option α := (des1 (.exit 0) f64.s0c.o0)
def f64.s0c.out : List Int × List Int → Ex × VS := (fun y => (.exit 0, f64.s0c.o0 y))
theorem f64.s0c.desOK : ∀ α y (k : Ex → VS → Option α), f64.s0c.des α y k = k (f64.s0c.out y).1 (f64.s0c.out y).2 := (fun _ _ _ => rfl)
def f64.s0c.inY : Ex → VS → Option (List Int × List Int)
  | .exit 0, ⟨[(6, .ptr 0 0), (10, .ptr 1 0)], [(0, ([.ints .u64 4 b0], 24, .norm)), (1, ([.ints .u64 4 b1], 24, .norm))], 2⟩ => some (b0, b1)
  | _, _ => none
def f64.lp (K : Nat) : Nat → Option (Hint × Summ) := tabLp [(0, f64.s0.h, summOr f64.s0.inX (summOf (iter (f64.s0 K) K) f64.s0.inX f64.s0.des) (summOr f64.s0b.inX (summOf (iter (f64.s0b K) K) f64.s0b.inX f64.s0b.des) (summOf (iter (f64.s0c K) K) f64.s0c.inX f64.s0c.des)))]
noncomputable def f64.tab (K : Nat) : List (Nat × Entry) := [(104, (f104v1.E K)), (105, (f105.E K)), (42, (f42.E K)), (40, (f40.E K)), (134, (f134.E K)), (133, (f133.E K))]
theorem f64.tabOK (K : Nat) : SpecOK Try.prog (tabSp (f64.tab K)) := tab_ok ((tab_cons (f104v1.ok K) (tab_cons (f105.ok K) (tab_cons (f42.ok K) (tab_cons (f40.ok K) (tab_cons (f134.ok K) (tab_cons (f133.ok K) tab_nil)))))))
theorem f64.s0.eq (K : Nat) (rec : Int × Int × List Int × List Int × List Int × List Int → Option (List Int × List Int)) (x : Int × Int × List Int × List Int × List Int × List Int) : f64.s0 K rec x = roundL (getA tys) (tabSp (f64.tab K)) 45 0 (f64.lp K) 400 f64.s0.b f64.s0.h f64.s0.ho f64.s0.shp f64.s0.inX f64.s0.inY rec x := by kernel_rfl
theorem f64.s0.lok (K : Nat) : LoopsOK Try.prog 45 0 (f64.lp K) f64.s0.b := loops_ok (by
  have h : loopsIn (f64.lp K) f64.s0.b = [] := by kernel_rfl
  rw [h]; simp)
theorem f64.s0.ok (K : Nat) : SummOK Try.prog 45 0 (summOf (iter (f64.s0 K) K) f64.s0.inX f64.s0.des) f64.s0.b :=
  loop_ok mix tys_ok (f64.tabOK K) (h := f64.s0.h) (ho := f64.s0.ho) (shp := f64.s0.shp) (inX := f64.s0.inX) (des := f64.s0.des) (out := f64.s0.out) (inY := f64.s0.inY) (fuel := 400)
    (by intro st x h; unfold f64.s0.inX at h; split at h <;> simp at h; subst h; rfl)
    (by intro e st y h; unfold f64.s0.inY at h; split at h <;> simp at h <;> subst h <;> rfl)
    f64.s0.desOK (f64.s0.lok K) (f64.s0 K) (f64.s0.eq K) K
theorem f64.s0b.eq (K : Nat) (rec : Int × Int × List Int × List Int × List Int × List Int × List Int → Option (List Int × List Int)) (x : Int × Int × List Int × List Int × List Int × List Int × List Int) : f64.s0b K rec x = roundL (getA tys) (tabSp (f64.tab K)) 45 0 (f64.lp K) 400 f64.s0b.b f64.s0b.h f64.s0b.ho f64.s0b.shp f64.s0b.inX f64.s0b.inY rec x := by kernel_rfl
theorem f64.s0b.lok (K : Nat) : LoopsOK Try.prog 45 0 (f64.lp K) f64.s0b.b := loops_ok (by
  have h : loopsIn (f64.lp K) f64.s0b.b = [] := by kernel_rfl
  rw [h]; simp)
theorem f64.s0b.ok (K : Nat) : SummOK Try.prog 45 0 (summOf (iter (f64.s0b K) K) f64.s0b.inX f64.s0b.des) f64.s0b.b :=
  loop_ok mix tys_ok (f64.tabOK K) (h := f64.s0b.h) (ho := f64.s0b.ho) (shp := f64.s0b.shp) (inX := f64.s0b.inX) (des := f64.s0b.des) (out := f64.s0b.out) (inY := f64.s0b.inY) (fuel := 400)
    (by intro st x h; unfold f64.s0b.inX at h; split at h <;> simp at h; subst h; rfl)
    (by intro e st y h; unfold f64.s0b.inY at h; split at h <;> simp at h <;> subst h <;> rfl)
    f64.s0b.desOK (f64.s0b.lok K) (f64.s0b K) (f64.s0b.eq K) K
theorem f64.s0c.eq (K : Nat) (rec : Int × Int × List Int × List Int × List Int × List Int × List Int → Option (List Int × List Int)) (x : Int × Int × List Int × List Int × List Int × List Int × List Int) : f64.s0c K rec x = roundL (getA tys) (tabSp (f64.tab K)) 45 0 (f64.lp K) 400 f64.s0c.b f64.s0c.h f64.s0c.ho f64.s0c.shp f64.s0c.inX f64.s0c.inY rec x := by kernel_rfl
theorem f64.s0c.lok (K : Nat) : LoopsOK Try.prog 45 0 (f64.lp K) f64.s0c.b := loops_ok (by
  have h : loopsIn (f64.lp K) f64.s0c.b = [] := by kernel_rfl
  rw [h]; simp)
theorem f64.s0c.ok (K : Nat) : SummOK Try.prog 45 0 (summOf (iter (f64.s0c K) K) f64.s0c.inX f64.s0c.des) f64.s0c.b :=
  loop_ok mix tys_ok (f64.tabOK K) (h := f64.s0c.h) (ho := f64.s0c.ho) (shp := f64.s0c.shp) (inX := f64.s0c.inX) (des := f64.s0c.des) (out := f64.s0c.out) (inY := f64.s0c.inY) (fuel := 400)
    (by intro st x h; unfold f64.s0c.inX at h; split at h <;> simp at h; subst h; rfl)
    (by intro e st y h; unfold f64.s0c.inY at h; split at h <;> simp at h <;> subst h <;> rfl)
    f64.s0c.desOK (f64.s0c.lok K) (f64.s0c K) (f64.s0c.eq K) K
theorem f64.loops (K : Nat) : LoopsOK Try.prog 45 0 (f64.lp K) f64.c := loops_ok (by
  have h : loopsIn (f64.lp K) f64.c = [(0, f64.s0.b)] := by kernel_rfl
  rw [h]
  intro p hp
  simp only [List.mem_cons, List.not_mem_nil, or_false] at hp
  rcases hp with rfl
  · exact ⟨_, rfl, (summOr_ok (f64.s0.ok K) (summOr_ok (f64.s0b.ok K) (f64.s0c.ok K)))⟩)
def f64.T (K : Nat) (a0 : List Int) (a1 : List Int) (a2 : List Int) : Option (List Int × Int) :=
  (f104v1.F K (a2, a0)).bind fun y1 =>
  alt (fun y2 =>
    bif (y2.1 != 0) then
      some ([0, 0, 0, 0], y2.1)
    else
      (f105.F K ()).bind fun y4 =>
      (f42.F K a1).bind fun y5 =>
      (iter (f64.s0 K) K (y5, 0, a0, a1, [0, 0, 0, 0], y4)).bind fun y8 =>
      some (y8.2, 0)) (fun y3 =>
    alt (fun y9 =>
      bif (y9.1 != 0) then
        some ([0, 0, 0, 0], y9.1)
      else
        (f105.F K ()).bind fun y11 =>
        (f42.F K a1).bind fun y12 =>
        (iter (f64.s0b K) K (y12, 0, a0, a1, [0, 0, 0, 0], y11, y9.2.2)).bind fun y20 =>
        some (y20.2, 0)) (fun y10 =>
      bif (y10.1 != 0) then
        some ([0, 0, 0, 0], y10.1)
      else
        (f105.F K ()).bind fun y22 =>
        (f42.F K a1).bind fun y23 =>
        (iter (f64.s0c K) K (y23, 0, a0, a1, [0, 0, 0, 0], y22, y10.2.2)).bind fun y31 =>
        some (y31.2, 0)) y3) y1
def f64.F (K : Nat) (x : List Int × List Int × List Int) : Option (List Int × Int) := f64.T K x.1 x.2.1 x.2.2
def f64.av (x : List Int × List Int × List Int) : List VV := [.agg [.ints .u64 4 x.1], .agg [.ints .u64 4 x.2.1], .agg [.ints .u64 4 x.2.2]]
def f64.bl (_x : List Int × List Int × List Int) : List (Nat × Blk) := []
def f64.inA : VS → Option (List Int × List Int × List Int)
  | ⟨[(0, .agg [.ints .u64 4 a0]), (1, .agg [.ints .u64 4 a1]), (2, .agg [.ints .u64 4 a2])], [], 0⟩ => some (a0, a1, a2)
  | _ => none
def f64.o0 (y : List Int × Int) : VS := ⟨[(0, .tup [.agg [.ints .u64 4 y.1], .int .i64 y.2])], [], 0⟩
def f64.des : ∀ α : Type, (List Int × Int) → (VS → Option α) → Option α := (dv1 f64.o0)
def f64.out : List Int × Int → VS := f64.o0
def f64.inR : VS → Option (List Int × Int)
  | ⟨[(0, .tup [.agg [.ints .u64 4 y_0], .int .i64 y_1])], [], 0⟩ => some (y_0, y_1)
  | _ => none
noncomputable def f64.E (K : Nat) : Entry := genE 0 f64.inA (f64.F K) f64.des
theorem f64.eq (K : Nat) (x : List Int × List Int × List Int) : f64.F K x = xrun (getA tys) (tabSp (f64.tab K)) Try.f64.ntmps 0 (f64.lp K) 400 f64.c ⟨initL 0 (f64.av x), f64.bl x, 0⟩ (contF (getA tys) 0 Try.f64.results.toList f64.inR) := by kernel_rfl
theorem f64.ok (K : Nat) : EntryOK Try.prog 64 (f64.E K) :=
  gen_ok mix tys_ok (f64.tabOK K) Try.func64 (by kernel_rfl : Try.f64.body = some f64.c) (by kernel_rfl) (f64.loops K) (av := f64.av) (bl := f64.bl) (out := f64.out) (fuel := 400)
    (by intro s x h; unfold f64.inA at h; split at h <;> simp at h; subst h; rfl) (fun _ => Nat.le_of_ble_eq_true rfl)
    (by intro s y h; unfold f64.inR at h; split at h <;> simp at h <;> subst h <;> rfl) (fun _ _ _ => rfl) (f64.eq K)
end Go.Proofs

namespace Go.Proofs
open Go.VM
end Go.Proofs

namespace Go.Proofs
open Go.VM
end Go.Proofs

namespace Go.Proofs
open Go.VM
end Go.Proofs

namespace Go.Proofs
open Go.VM
end Go.Proofs

namespace Go.Proofs
open Go.VM
end Go.Proofs

namespace Go.Proofs
open Go.VM
end Go.Proofs

namespace Go.Proofs
open Go.VM
end Go.Proofs

namespace Go.Proofs
open Go.VM
end Go.Proofs

namespace Go.Proofs
open Go.VM
end Go.Proofs

namespace Go.Proofs
open Go.VM
end Go.Proofs

namespace Go.Proofs
open Go.VM
end Go.Proofs
