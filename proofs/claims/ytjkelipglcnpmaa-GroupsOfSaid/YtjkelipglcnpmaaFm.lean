/- Go functions: for each a Lean function with the same answers, and the proof that the call comes to them, with no condition. -/
import Derived.Test.YtjkelipglcnpmaaFl
import Derived.Test.YtjkelipglcnpmaaFd
import Derived.Test.YtjkelipglcnpmaaFe
namespace Go.Proofs
open Go.VM
/-! ### burrow/mods.one -/
noncomputable def f105.c : Code := bodyOf Try.f105
def f105.lp (_ : Nat) : Nat → Option (Hint × Summ) := fun _ => none
noncomputable def f105.tab (K : Nat) : List (Nat × Entry) := [(46, (f46.E K))]
theorem f105.tabOK (K : Nat) : SpecOK Try.prog (tabSp (f105.tab K)) := tab_ok ((tab_cons (f46.ok K) tab_nil))
theorem f105.loops (K : Nat) : LoopsOK Try.prog 2 0 (f105.lp K) f105.c := loops_ok (by
  have h : loopsIn (f105.lp K) f105.c = [] := by kernel_rfl
  rw [h]; simp)
def f105.T (K : Nat)  : Option (List Int) :=
  (f46.F K 1).bind fun y1 =>
  some y1
def f105.F (K : Nat) (_x : Unit) : Option (List Int) := f105.T K 
def f105.av (_x : Unit) : List VV := []
def f105.bl (_x : Unit) : List (Nat × Blk) := []
def f105.inA : VS → Option (Unit)
  | ⟨[], [], 0⟩ => some ()
  | _ => none
def f105.o0 (y : List Int) : VS := ⟨[(0, .agg [.ints .u64 4 y])], [], 0⟩
def f105.des : ∀ α : Type, (List Int) → (VS → Option α) → Option α := (dv1 f105.o0)
def f105.out : List Int → VS := f105.o0
def f105.inR : VS → Option (List Int)
  | ⟨[(0, .agg [.ints .u64 4 y])], [], 0⟩ => some y
  | _ => none
noncomputable def f105.E (K : Nat) : Entry := genE 0 f105.inA (f105.F K) f105.des
theorem f105.eq (K : Nat) (x : Unit) : f105.F K x = xrun (getA tys) (tabSp (f105.tab K)) Try.f105.ntmps 0 (f105.lp K) 400 f105.c ⟨initL 0 (f105.av x), f105.bl x, 0⟩ (contF (getA tys) 0 Try.f105.results.toList f105.inR) := by kernel_rfl
theorem f105.ok (K : Nat) : EntryOK Try.prog 105 (f105.E K) :=
  gen_ok mix tys_ok (f105.tabOK K) Try.func105 (by kernel_rfl : Try.f105.body = some f105.c) (by kernel_rfl) (f105.loops K) (av := f105.av) (bl := f105.bl) (out := f105.out) (fuel := 400)
    (by intro s x h; unfold f105.inA at h; split at h <;> simp at h; rfl) (fun _ => Nat.le_of_ble_eq_true rfl)
    (by intro s y h; unfold f105.inR at h; split at h <;> simp at h <;> subst h <;> rfl) (fun _ _ _ => rfl) (f105.eq K)
end Go.Proofs

namespace Go.Proofs
open Go.VM
/-! ### burrow/mods.by -/
noncomputable def f124.c : Code := bodyOf Try.f124
def f124.lp (_ : Nat) : Nat → Option (Hint × Summ) := fun _ => none
noncomputable def f124.tab (K : Nat) : List (Nat × Entry) := [(42, (f42.E K))]
theorem f124.tabOK (K : Nat) : SpecOK Try.prog (tabSp (f124.tab K)) := tab_ok ((tab_cons (f42.ok K) tab_nil))
theorem f124.loops (K : Nat) : LoopsOK Try.prog 15 0 (f124.lp K) f124.c := loops_ok (by
  have h : loopsIn (f124.lp K) f124.c = [] := by kernel_rfl
  rw [h]; simp)
def f124.T (K : Nat) (a0 : List Int) : Option ((List Int) ⊕ (List Int)) :=
  (f42.F K a0).bind fun y1 =>
  bif (decide (y1 ≤ 64)) then
    some (.inl a0)
  else
    some (.inr a0)
def f124.F (K : Nat) (x : List Int) : Option ((List Int) ⊕ (List Int)) := f124.T K x
def f124.av (x : List Int) : List VV := [.agg [.ints .u64 4 x]]
def f124.bl (_x : List Int) : List (Nat × Blk) := []
def f124.inA : VS → Option (List Int)
  | ⟨[(0, .agg [.ints .u64 4 a0])], [], 0⟩ => some a0
  | _ => none
def f124.o0 (y : List Int) : VS := ⟨[(0, .agg [.fn 132 [.ptr 0 0], .fn 131 [.ptr 0 0], .fn 134 [.ptr 0 0]])], [(0, ([.ints .u64 4 y], 24, .norm))], 1⟩
def f124.o1 (y : List Int) : VS := ⟨[(0, .agg [.fn 132 [.ptr 0 0], .fn 131 [.ptr 0 0], .fn 133 [.ptr 0 0]])], [(0, ([.ints .u64 4 y], 24, .norm))], 1⟩
def f124.des : ∀ α : Type, ((List Int) ⊕ (List Int)) → (VS → Option α) → Option α := (dvA (dv1 f124.o0) (dv1 f124.o1))
def f124.out : (List Int) ⊕ (List Int) → VS := (alt f124.o0 f124.o1)
def f124.inR : VS → Option ((List Int) ⊕ (List Int))
  | ⟨[(0, .agg [.fn 132 [.ptr 0 0], .fn 131 [.ptr 0 0], .fn 134 [.ptr 0 0]])], [(0, ([.ints .u64 4 z0], 24, .norm))], 1⟩ => some (.inl z0)
  | ⟨[(0, .agg [.fn 132 [.ptr 0 0], .fn 131 [.ptr 0 0], .fn 133 [.ptr 0 0]])], [(0, ([.ints .u64 4 z0], 24, .norm))], 1⟩ => some (.inr z0)
  | _ => none
noncomputable def f124.E (K : Nat) : Entry := genE 0 f124.inA (f124.F K) f124.des
theorem f124.eq (K : Nat) (x : List Int) : f124.F K x = xrun (getA tys) (tabSp (f124.tab K)) Try.f124.ntmps 0 (f124.lp K) 400 f124.c ⟨initL 0 (f124.av x), f124.bl x, 0⟩ (contF (getA tys) 0 Try.f124.results.toList f124.inR) := by kernel_rfl
theorem f124.ok (K : Nat) : EntryOK Try.prog 124 (f124.E K) :=
  gen_ok mix tys_ok (f124.tabOK K) Try.func124 (by kernel_rfl : Try.f124.body = some f124.c) (by kernel_rfl) (f124.loops K) (av := f124.av) (bl := f124.bl) (out := f124.out) (fuel := 400)
    (by intro s x h; unfold f124.inA at h; split at h <;> simp at h; subst h; rfl) (fun _ => Nat.le_of_ble_eq_true rfl)
    (by intro s y h; unfold f124.inR at h; split at h <;> simp at h <;> subst h <;> rfl) (dvA_ok (fun _ _ _ => rfl) (fun _ _ _ => rfl)) (f124.eq K)
end Go.Proofs

namespace Go.Proofs
open Go.VM
/-! ### burrow/mods.goes -/
noncomputable def f104.c : Code := bodyOf Try.f104
def f104.s0t (K : Nat) (rec : Bool × Int × Int × List Int × List Int → Option (Bool × List Int × List Int)) (t6 : Bool) (t14 : Int) (t15 : Int) (b0 : List Int) (b1 : List Int) : Option (Bool × List Int × List Int) :=
  bif (decide (t15 < t14)) then
    bif decide (0 ≤ t15 ∧ t15 < 2) then
      bif t6 then
        (f44.F K ((List.take 4 (List.drop ((Int.toNat t15) * 4) b0)), b1)).bind fun y7 =>
        rec ((decide (y7 < 0)), t14, (IntKind.wrap .i64 (t15 + 1)), b0, b1)
      else
        rec (false, t14, (IntKind.wrap .i64 (t15 + 1)), b0, b1)
    else
      none
  else
    some (t6, b0, b1)
def f104.s0 (K : Nat) (rec : Bool × Int × Int × List Int × List Int → Option (Bool × List Int × List Int)) (x : Bool × Int × Int × List Int × List Int) : Option (Bool × List Int × List Int) := f104.s0t K rec x.1 x.2.1 x.2.2.1 x.2.2.2.1 x.2.2.2.2
noncomputable def f104.s0.b : Code := (findLoop 0 f104.c).getD .skip
def f104.s0.h : Hint := { lv := [2, 4, 6, 13, 14, 15] }
def f104.s0.ho : Hint := { lv := [2, 4, 6] }
def f104.s0.shp (x : Bool × Int × Int × List Int × List Int) : VS := ⟨[(2, .ptr 1 0), (4, .ptr 2 0), (6, .bool x.1), (13, .sl 0 0 2 2), (14, .int .i64 x.2.1), (15, .int .i64 x.2.2.1)], [(0, ([.ints .u64 8 x.2.2.2.1], 24, .norm)), (1, ([.ints .u64 4 x.2.2.2.2], 24, .norm)), (2, ([.raw .nilFunc, .raw .nilFunc, .raw .nilFunc], 95, .norm))], 3⟩
def f104.s0.inX : VS → Option (Bool × Int × Int × List Int × List Int)
  | ⟨[(2, .ptr 1 0), (4, .ptr 2 0), (6, .bool t6), (13, .sl 0 0 2 2), (14, .int .i64 t14), (15, .int .i64 t15)], [(0, ([.ints .u64 8 b0], 24, .norm)), (1, ([.ints .u64 4 b1], 24, .norm)), (2, ([.raw .nilFunc, .raw .nilFunc, .raw .nilFunc], 95, .norm))], 3⟩ => some (t6, t14, t15, b0, b1)
  | _ => none
def f104.s0.o0 (y : Bool × List Int × List Int) : VS := ⟨[(2, .ptr 1 0), (4, .ptr 2 0), (6, .bool y.1)], [(0, ([.ints .u64 8 y.2.1], 24, .norm)), (1, ([.ints .u64 4 y.2.2], 24, .norm)), (2, ([.raw .nilFunc, .raw .nilFunc, .raw .nilFunc], 95, .norm))], 3⟩
def f104.s0.des : ∀ α : Type, (Bool × List Int × List Int) → (Ex → VS → Option α) → Option α := (des1 (.exit 0) f104.s0.o0)
def f104.s0.out : Bool × List Int × List Int → Ex × VS := (fun y => (.exit 0, f104.s0.o0 y))
theorem f104.s0.desOK : ∀ α y (k : Ex → VS → Option α), f104.s0.des α y k = k (f104.s0.out y).1 (f104.s0.out y).2 := (fun _ _ _ => rfl)
def f104.s0.inY : Ex → VS → Option (Bool × List Int × List Int)
  | .exit 0, ⟨[(2, .ptr 1 0), (4, .ptr 2 0), (6, .bool t6)], [(0, ([.ints .u64 8 b0], 24, .norm)), (1, ([.ints .u64 4 b1], 24, .norm)), (2, ([.raw .nilFunc, .raw .nilFunc, .raw .nilFunc], 95, .norm))], 3⟩ => some (t6, b0, b1)
  | _, _ => none
def f104.lp (K : Nat) : Nat → Option (Hint × Summ) := tabLp [(0, f104.s0.h, summOf (iter (f104.s0 K) K) f104.s0.inX f104.s0.des)]
noncomputable def f104.tab (K : Nat) : List (Nat × Entry) := [(105, (f105.E K)), (44, (f44.E K)), (124, (f124.E K))]
theorem f104.tabOK (K : Nat) : SpecOK Try.prog (tabSp (f104.tab K)) := tab_ok ((tab_cons (f105.ok K) (tab_cons (f44.ok K) (tab_cons (f124.ok K) tab_nil))))
theorem f104.s0.eq (K : Nat) (rec : Bool × Int × Int × List Int × List Int → Option (Bool × List Int × List Int)) (x : Bool × Int × Int × List Int × List Int) : f104.s0 K rec x = roundL (getA tys) (tabSp (f104.tab K)) 32 1 (f104.lp K) 400 f104.s0.b f104.s0.h f104.s0.ho f104.s0.shp f104.s0.inX f104.s0.inY rec x := by kernel_rfl
theorem f104.s0.lok (K : Nat) : LoopsOK Try.prog 32 1 (f104.lp K) f104.s0.b := loops_ok (by
  have h : loopsIn (f104.lp K) f104.s0.b = [] := by kernel_rfl
  rw [h]; simp)
theorem f104.s0.ok (K : Nat) : SummOK Try.prog 32 1 (summOf (iter (f104.s0 K) K) f104.s0.inX f104.s0.des) f104.s0.b :=
  loop_ok mix tys_ok (f104.tabOK K) (h := f104.s0.h) (ho := f104.s0.ho) (shp := f104.s0.shp) (inX := f104.s0.inX) (des := f104.s0.des) (out := f104.s0.out) (inY := f104.s0.inY) (fuel := 400)
    (by intro st x h; unfold f104.s0.inX at h; split at h <;> simp at h; subst h; rfl)
    (by intro e st y h; unfold f104.s0.inY at h; split at h <;> simp at h <;> subst h <;> rfl)
    f104.s0.desOK (f104.s0.lok K) (f104.s0 K) (f104.s0.eq K) K
theorem f104.loops (K : Nat) : LoopsOK Try.prog 32 1 (f104.lp K) f104.c := loops_ok (by
  have h : loopsIn (f104.lp K) f104.c = [(0, f104.s0.b)] := by kernel_rfl
  rw [h]
  intro p hp
  simp only [List.mem_cons, List.not_mem_nil, or_false] at hp
  rcases hp with rfl
  · exact ⟨_, rfl, (f104.s0.ok K)⟩)
def f104.T (K : Nat) (a0 : List Int) (m0 : List Int) : Option ((Int × List Int) ⊕ (Int × List Int × List Int) ⊕ (Int × List Int × List Int)) :=
  (f105.F K ()).bind fun y1 =>
  (f44.F K (a0, y1)).bind fun y2 =>
  (iter (f104.s0 K) K ((decide (y2 > 0)), 2, 0, m0, a0)).bind fun y11 =>
  bif !y11.1 then
    some (.inl (1, y11.2.1))
  else
    (f124.F K y11.2.2).bind fun y12 =>
    alt (fun y13 =>
      some (.inr (.inl (0, y11.2.1, y13)))) (fun y14 =>
      some (.inr (.inr (0, y11.2.1, y14)))) y12
def f104.F (K : Nat) (x : List Int × List Int) : Option ((Int × List Int) ⊕ (Int × List Int × List Int) ⊕ (Int × List Int × List Int)) := f104.T K x.1 x.2
def f104.av (x : List Int × List Int) : List VV := [.agg [.ints .u64 4 x.1], .sl 0 0 2 2]
def f104.bl (x : List Int × List Int) : List (Nat × Blk) := [(0, ([.ints .u64 8 x.2], 24, .norm))]
def f104.inA : VS → Option (List Int × List Int)
  | ⟨[(0, .agg [.ints .u64 4 a0]), (1, .sl 0 0 2 2)], [(0, ([.ints .u64 8 m0], 24, .norm))], 1⟩ => some (a0, m0)
  | _ => none
def f104.o0 (y : Int × List Int) : VS := ⟨[(0, .tup [.agg [.raw .nilFunc, .raw .nilFunc, .raw .nilFunc], .int .i64 y.1])], [(0, ([.ints .u64 8 y.2], 24, .norm))], 1⟩
def f104.o1 (y : Int × List Int × List Int) : VS := ⟨[(0, .tup [.agg [.fn 132 [.ptr 1 0], .fn 131 [.ptr 1 0], .fn 134 [.ptr 1 0]], .int .i64 y.1])], [(0, ([.ints .u64 8 y.2.1], 24, .norm)), (1, ([.ints .u64 4 y.2.2], 24, .norm))], 2⟩
def f104.o2 (y : Int × List Int × List Int) : VS := ⟨[(0, .tup [.agg [.fn 132 [.ptr 1 0], .fn 131 [.ptr 1 0], .fn 133 [.ptr 1 0]], .int .i64 y.1])], [(0, ([.ints .u64 8 y.2.1], 24, .norm)), (1, ([.ints .u64 4 y.2.2], 24, .norm))], 2⟩
def f104.des : ∀ α : Type, ((Int × List Int) ⊕ (Int × List Int × List Int) ⊕ (Int × List Int × List Int)) → (VS → Option α) → Option α := (dvA (dv1 f104.o0) (dvA (dv1 f104.o1) (dv1 f104.o2)))
def f104.out : (Int × List Int) ⊕ (Int × List Int × List Int) ⊕ (Int × List Int × List Int) → VS := (alt f104.o0 (alt f104.o1 f104.o2))
def f104.inR : VS → Option ((Int × List Int) ⊕ (Int × List Int × List Int) ⊕ (Int × List Int × List Int))
  | ⟨[(0, .tup [.agg [.raw .nilFunc, .raw .nilFunc, .raw .nilFunc], .int .i64 y])], [(0, ([.ints .u64 8 z0], 24, .norm))], 1⟩ => some (.inl (y, z0))
  | ⟨[(0, .tup [.agg [.fn 132 [.ptr 1 0], .fn 131 [.ptr 1 0], .fn 134 [.ptr 1 0]], .int .i64 y])], [(0, ([.ints .u64 8 z0], 24, .norm)), (1, ([.ints .u64 4 z1], 24, .norm))], 2⟩ => some (.inr (.inl (y, z0, z1)))
  | ⟨[(0, .tup [.agg [.fn 132 [.ptr 1 0], .fn 131 [.ptr 1 0], .fn 133 [.ptr 1 0]], .int .i64 y])], [(0, ([.ints .u64 8 z0], 24, .norm)), (1, ([.ints .u64 4 z1], 24, .norm))], 2⟩ => some (.inr (.inr (y, z0, z1)))
  | _ => none
noncomputable def f104.E (K : Nat) : Entry := genE 1 f104.inA (f104.F K) f104.des
theorem f104.eq (K : Nat) (x : List Int × List Int) : f104.F K x = xrun (getA tys) (tabSp (f104.tab K)) Try.f104.ntmps 1 (f104.lp K) 400 f104.c ⟨initL 0 (f104.av x), f104.bl x, 1⟩ (contF (getA tys) 1 Try.f104.results.toList f104.inR) := by kernel_rfl
theorem f104.ok (K : Nat) : EntryOK Try.prog 104 (f104.E K) :=
  gen_ok mix tys_ok (f104.tabOK K) Try.func104 (by kernel_rfl : Try.f104.body = some f104.c) (by kernel_rfl) (f104.loops K) (av := f104.av) (bl := f104.bl) (out := f104.out) (fuel := 400)
    (by intro s x h; unfold f104.inA at h; split at h <;> simp at h; subst h; rfl) (fun _ => Nat.le_of_ble_eq_true rfl)
    (by intro s y h; unfold f104.inR at h; split at h <;> simp at h <;> subst h <;> rfl) (dvA_ok (fun _ _ _ => rfl) (dvA_ok (fun _ _ _ => rfl) (fun _ _ _ => rfl))) (f104.eq K)
end Go.Proofs

namespace Go.Proofs
open Go.VM
/-! ### burrow/mods.goes -/
noncomputable def f104v1.c : Code := bodyOf Try.f104
def f104v1.s0t (K : Nat) (rec : Bool × Int × Int × List Int × List Int → Option (Bool × List Int × List Int)) (t6 : Bool) (t14 : Int) (t15 : Int) (b0 : List Int) (b1 : List Int) : Option (Bool × List Int × List Int) :=
  bif (decide (t15 < t14)) then
    bif decide (0 ≤ t15 ∧ t15 < 1) then
      bif t6 then
        (f44.F K ((List.take 4 (List.drop ((Int.toNat t15) * 4) b0)), b1)).bind fun y7 =>
        rec ((decide (y7 < 0)), t14, (IntKind.wrap .i64 (t15 + 1)), b0, b1)
      else
        rec (false, t14, (IntKind.wrap .i64 (t15 + 1)), b0, b1)
    else
      none
  else
    some (t6, b0, b1)
def f104v1.s0 (K : Nat) (rec : Bool × Int × Int × List Int × List Int → Option (Bool × List Int × List Int)) (x : Bool × Int × Int × List Int × List Int) : Option (Bool × List Int × List Int) := f104v1.s0t K rec x.1 x.2.1 x.2.2.1 x.2.2.2.1 x.2.2.2.2
noncomputable def f104v1.s0.b : Code := (findLoop 0 f104v1.c).getD .skip
def f104v1.s0.h : Hint := { lv := [2, 4, 6, 13, 14, 15] }
def f104v1.s0.ho : Hint := { lv := [2, 4, 6] }
def f104v1.s0.shp (x : Bool × Int × Int × List Int × List Int) : VS := ⟨[(2, .ptr 1 0), (4, .ptr 2 0), (6, .bool x.1), (13, .sl 0 0 1 1), (14, .int .i64 x.2.1), (15, .int .i64 x.2.2.1)], [(0, ([.ints .u64 4 x.2.2.2.1], 24, .norm)), (1, ([.ints .u64 4 x.2.2.2.2], 24, .norm)), (2, ([.raw .nilFunc, .raw .nilFunc, .raw .nilFunc], 95, .norm))], 3⟩
def f104v1.s0.inX : VS → Option (Bool × Int × Int × List Int × List Int)
  | ⟨[(2, .ptr 1 0), (4, .ptr 2 0), (6, .bool t6), (13, .sl 0 0 1 1), (14, .int .i64 t14), (15, .int .i64 t15)], [(0, ([.ints .u64 4 b0], 24, .norm)), (1, ([.ints .u64 4 b1], 24, .norm)), (2, ([.raw .nilFunc, .raw .nilFunc, .raw .nilFunc], 95, .norm))], 3⟩ => some (t6, t14, t15, b0, b1)
  | _ => none
def f104v1.s0.o0 (y : Bool × List Int × List Int) : VS := ⟨[(2, .ptr 1 0), (4, .ptr 2 0), (6, .bool y.1)], [(0, ([.ints .u64 4 y.2.1], 24, .norm)), (1, ([.ints .u64 4 y.2.2], 24, .norm)), (2, ([.raw .nilFunc, .raw .nilFunc, .raw .nilFunc], 95, .norm))], 3⟩
def f104v1.s0.des : ∀ α : Type, (Bool × List Int × List Int) → (Ex → VS → Option α) → Option α := (des1 (.exit 0) f104v1.s0.o0)
def f104v1.s0.out : Bool × List Int × List Int → Ex × VS := (fun y => (.exit 0, f104v1.s0.o0 y))
theorem f104v1.s0.desOK : ∀ α y (k : Ex → VS → Option α), f104v1.s0.des α y k = k (f104v1.s0.out y).1 (f104v1.s0.out y).2 := (fun _ _ _ => rfl)
def f104v1.s0.inY : Ex → VS → Option (Bool × List Int × List Int)
  | .exit 0, ⟨[(2, .ptr 1 0), (4, .ptr 2 0), (6, .bool t6)], [(0, ([.ints .u64 4 b0], 24, .norm)), (1, ([.ints .u64 4 b1], 24, .norm)), (2, ([.raw .nilFunc, .raw .nilFunc, .raw .nilFunc], 95, .norm))], 3⟩ => some (t6, b0, b1)
  | _, _ => none
def f104v1.lp (K : Nat) : Nat → Option (Hint × Summ) := tabLp [(0, f104v1.s0.h, summOf (iter (f104v1.s0 K) K) f104v1.s0.inX f104v1.s0.des)]
noncomputable def f104v1.tab (K : Nat) : List (Nat × Entry) := [(105, (f105.E K)), (44, (f44.E K)), (124, (f124.E K))]
theorem f104v1.tabOK (K : Nat) : SpecOK Try.prog (tabSp (f104v1.tab K)) := tab_ok ((tab_cons (f105.ok K) (tab_cons (f44.ok K) (tab_cons (f124.ok K) tab_nil))))
theorem f104v1.s0.eq (K : Nat) (rec : Bool × Int × Int × List Int × List Int → Option (Bool × List Int × List Int)) (x : Bool × Int × Int × List Int × List Int) : f104v1.s0 K rec x = roundL (getA tys) (tabSp (f104v1.tab K)) 32 1 (f104v1.lp K) 400 f104v1.s0.b f104v1.s0.h f104v1.s0.ho f104v1.s0.shp f104v1.s0.inX f104v1.s0.inY rec x := by kernel_rfl
theorem f104v1.s0.lok (K : Nat) : LoopsOK Try.prog 32 1 (f104v1.lp K) f104v1.s0.b := loops_ok (by
  have h : loopsIn (f104v1.lp K) f104v1.s0.b = [] := by kernel_rfl
  rw [h]; simp)
theorem f104v1.s0.ok (K : Nat) : SummOK Try.prog 32 1 (summOf (iter (f104v1.s0 K) K) f104v1.s0.inX f104v1.s0.des) f104v1.s0.b :=
  loop_ok mix tys_ok (f104v1.tabOK K) (h := f104v1.s0.h) (ho := f104v1.s0.ho) (shp := f104v1.s0.shp) (inX := f104v1.s0.inX) (des := f104v1.s0.des) (out := f104v1.s0.out) (inY := f104v1.s0.inY) (fuel := 400)
    (by intro st x h; unfold f104v1.s0.inX at h; split at h <;> simp at h; subst h; rfl)
    (by intro e st y h; unfold f104v1.s0.inY at h; split at h <;> simp at h <;> subst h <;> rfl)
    f104v1.s0.desOK (f104v1.s0.lok K) (f104v1.s0 K) (f104v1.s0.eq K) K
theorem f104v1.loops (K : Nat) : LoopsOK Try.prog 32 1 (f104v1.lp K) f104v1.c := loops_ok (by
  have h : loopsIn (f104v1.lp K) f104v1.c = [(0, f104v1.s0.b)] := by kernel_rfl
  rw [h]
  intro p hp
  simp only [List.mem_cons, List.not_mem_nil, or_false] at hp
  rcases hp with rfl
  · exact ⟨_, rfl, (f104v1.s0.ok K)⟩)
def f104v1.T (K : Nat) (a0 : List Int) (m0 : List Int) : Option ((Int × List Int) ⊕ (Int × List Int × List Int) ⊕ (Int × List Int × List Int)) :=
  (f105.F K ()).bind fun y1 =>
  (f44.F K (a0, y1)).bind fun y2 =>
  (iter (f104v1.s0 K) K ((decide (y2 > 0)), 1, 0, m0, a0)).bind fun y11 =>
  bif !y11.1 then
    some (.inl (1, y11.2.1))
  else
    (f124.F K y11.2.2).bind fun y12 =>
    alt (fun y13 =>
      some (.inr (.inl (0, y11.2.1, y13)))) (fun y14 =>
      some (.inr (.inr (0, y11.2.1, y14)))) y12
def f104v1.F (K : Nat) (x : List Int × List Int) : Option ((Int × List Int) ⊕ (Int × List Int × List Int) ⊕ (Int × List Int × List Int)) := f104v1.T K x.1 x.2
def f104v1.av (x : List Int × List Int) : List VV := [.agg [.ints .u64 4 x.1], .sl 0 0 1 1]
def f104v1.bl (x : List Int × List Int) : List (Nat × Blk) := [(0, ([.ints .u64 4 x.2], 24, .norm))]
def f104v1.inA : VS → Option (List Int × List Int)
  | ⟨[(0, .agg [.ints .u64 4 a0]), (1, .sl 0 0 1 1)], [(0, ([.ints .u64 4 m0], 24, .norm))], 1⟩ => some (a0, m0)
  | _ => none
def f104v1.o0 (y : Int × List Int) : VS := ⟨[(0, .tup [.agg [.raw .nilFunc, .raw .nilFunc, .raw .nilFunc], .int .i64 y.1])], [(0, ([.ints .u64 4 y.2], 24, .norm))], 1⟩
def f104v1.o1 (y : Int × List Int × List Int) : VS := ⟨[(0, .tup [.agg [.fn 132 [.ptr 1 0], .fn 131 [.ptr 1 0], .fn 134 [.ptr 1 0]], .int .i64 y.1])], [(0, ([.ints .u64 4 y.2.1], 24, .norm)), (1, ([.ints .u64 4 y.2.2], 24, .norm))], 2⟩
def f104v1.o2 (y : Int × List Int × List Int) : VS := ⟨[(0, .tup [.agg [.fn 132 [.ptr 1 0], .fn 131 [.ptr 1 0], .fn 133 [.ptr 1 0]], .int .i64 y.1])], [(0, ([.ints .u64 4 y.2.1], 24, .norm)), (1, ([.ints .u64 4 y.2.2], 24, .norm))], 2⟩
def f104v1.des : ∀ α : Type, ((Int × List Int) ⊕ (Int × List Int × List Int) ⊕ (Int × List Int × List Int)) → (VS → Option α) → Option α := (dvA (dv1 f104v1.o0) (dvA (dv1 f104v1.o1) (dv1 f104v1.o2)))
def f104v1.out : (Int × List Int) ⊕ (Int × List Int × List Int) ⊕ (Int × List Int × List Int) → VS := (alt f104v1.o0 (alt f104v1.o1 f104v1.o2))
def f104v1.inR : VS → Option ((Int × List Int) ⊕ (Int × List Int × List Int) ⊕ (Int × List Int × List Int))
  | ⟨[(0, .tup [.agg [.raw .nilFunc, .raw .nilFunc, .raw .nilFunc], .int .i64 y])], [(0, ([.ints .u64 4 z0], 24, .norm))], 1⟩ => some (.inl (y, z0))
  | ⟨[(0, .tup [.agg [.fn 132 [.ptr 1 0], .fn 131 [.ptr 1 0], .fn 134 [.ptr 1 0]], .int .i64 y])], [(0, ([.ints .u64 4 z0], 24, .norm)), (1, ([.ints .u64 4 z1], 24, .norm))], 2⟩ => some (.inr (.inl (y, z0, z1)))
  | ⟨[(0, .tup [.agg [.fn 132 [.ptr 1 0], .fn 131 [.ptr 1 0], .fn 133 [.ptr 1 0]], .int .i64 y])], [(0, ([.ints .u64 4 z0], 24, .norm)), (1, ([.ints .u64 4 z1], 24, .norm))], 2⟩ => some (.inr (.inr (y, z0, z1)))
  | _ => none
noncomputable def f104v1.E (K : Nat) : Entry := genE 1 f104v1.inA (f104v1.F K) f104v1.des
theorem f104v1.eq (K : Nat) (x : List Int × List Int) : f104v1.F K x = xrun (getA tys) (tabSp (f104v1.tab K)) Try.f104.ntmps 1 (f104v1.lp K) 400 f104v1.c ⟨initL 0 (f104v1.av x), f104v1.bl x, 1⟩ (contF (getA tys) 1 Try.f104.results.toList f104v1.inR) := by kernel_rfl
theorem f104v1.ok (K : Nat) : EntryOK Try.prog 104 (f104v1.E K) :=
  gen_ok mix tys_ok (f104v1.tabOK K) Try.func104 (by kernel_rfl : Try.f104.body = some f104v1.c) (by kernel_rfl) (f104v1.loops K) (av := f104v1.av) (bl := f104v1.bl) (out := f104v1.out) (fuel := 400)
    (by intro s x h; unfold f104v1.inA at h; split at h <;> simp at h; subst h; rfl) (fun _ => Nat.le_of_ble_eq_true rfl)
    (by intro s y h; unfold f104v1.inR at h; split at h <;> simp at h <;> subst h <;> rfl) (dvA_ok (fun _ _ _ => rfl) (dvA_ok (fun _ _ _ => rfl) (fun _ _ _ => rfl))) (f104v1.eq K)
end Go.Proofs

namespace Go.Proofs
open Go.VM
/-! ### burrow/mods.by$1 -/
noncomputable def f131.c : Code := bodyOf Try.f131
def f131.lp (_ : Nat) : Nat → Option (Hint × Summ) := fun _ => none
noncomputable def f131.tab (K : Nat) : List (Nat × Entry) := [(34, (f34.E K)), (32, (f32.E K))]
theorem f131.tabOK (K : Nat) : SpecOK Try.prog (tabSp (f131.tab K)) := tab_ok ((tab_cons (f34.ok K) (tab_cons (f32.ok K) tab_nil)))
theorem f131.loops (K : Nat) : LoopsOK Try.prog 23 1 (f131.lp K) f131.c := loops_ok (by
  have h : loopsIn (f131.lp K) f131.c = [] := by kernel_rfl
  rw [h]; simp)
def f131.T (K : Nat) (a0 : List Int) (a1 : List Int) (m0 : List Int) : Option (List Int × List Int) :=
  (f34.F K (a0, a1)).bind fun y1 =>
  bif (decide (y1.2 > 0)) then
    (f32.F K (y1.1, m0)).bind fun y3 =>
    some (y3.1, m0)
  else
    some (y1.1, m0)
def f131.F (K : Nat) (x : List Int × List Int × List Int) : Option (List Int × List Int) := f131.T K x.1 x.2.1 x.2.2
def f131.av (x : List Int × List Int × List Int) : List VV := [.agg [.ints .u64 4 x.1], .agg [.ints .u64 4 x.2.1], .ptr 0 0]
def f131.bl (x : List Int × List Int × List Int) : List (Nat × Blk) := [(0, ([.ints .u64 4 x.2.2], 24, .norm))]
def f131.inA : VS → Option (List Int × List Int × List Int)
  | ⟨[(0, .agg [.ints .u64 4 a0]), (1, .agg [.ints .u64 4 a1]), (2, .ptr 0 0)], [(0, ([.ints .u64 4 m0], 24, .norm))], 1⟩ => some (a0, a1, m0)
  | _ => none
def f131.o0 (y : List Int × List Int) : VS := ⟨[(0, .agg [.ints .u64 4 y.1])], [(0, ([.ints .u64 4 y.2], 24, .norm))], 1⟩
def f131.des : ∀ α : Type, (List Int × List Int) → (VS → Option α) → Option α := (dv1 f131.o0)
def f131.out : List Int × List Int → VS := f131.o0
def f131.inR : VS → Option (List Int × List Int)
  | ⟨[(0, .agg [.ints .u64 4 y])], [(0, ([.ints .u64 4 z0], 24, .norm))], 1⟩ => some (y, z0)
  | _ => none
noncomputable def f131.E (K : Nat) : Entry := genE 1 f131.inA (f131.F K) f131.des
theorem f131.eq (K : Nat) (x : List Int × List Int × List Int) : f131.F K x = xrun (getA tys) (tabSp (f131.tab K)) Try.f131.ntmps 1 (f131.lp K) 400 f131.c ⟨initL 0 (f131.av x), f131.bl x, 1⟩ (contF (getA tys) 1 Try.f131.results.toList f131.inR) := by kernel_rfl
theorem f131.ok (K : Nat) : EntryOK Try.prog 131 (f131.E K) :=
  gen_ok mix tys_ok (f131.tabOK K) Try.func131 (by kernel_rfl : Try.f131.body = some f131.c) (by kernel_rfl) (f131.loops K) (av := f131.av) (bl := f131.bl) (out := f131.out) (fuel := 400)
    (by intro s x h; unfold f131.inA at h; split at h <;> simp at h; subst h; rfl) (fun _ => Nat.le_of_ble_eq_true rfl)
    (by intro s y h; unfold f131.inR at h; split at h <;> simp at h <;> subst h <;> rfl) (fun _ _ _ => rfl) (f131.eq K)
end Go.Proofs

namespace Go.Proofs
open Go.VM
/-! ### burrow/mods.by$2 -/
noncomputable def f132.c : Code := bodyOf Try.f132
def f132.lp (_ : Nat) : Nat → Option (Hint × Summ) := fun _ => none
noncomputable def f132.tab (K : Nat) : List (Nat × Entry) := [(34, (f34.E K)), (44, (f44.E K)), (32, (f32.E K))]
theorem f132.tabOK (K : Nat) : SpecOK Try.prog (tabSp (f132.tab K)) := tab_ok ((tab_cons (f34.ok K) (tab_cons (f44.ok K) (tab_cons (f32.ok K) tab_nil))))
theorem f132.loops (K : Nat) : LoopsOK Try.prog 32 1 (f132.lp K) f132.c := loops_ok (by
  have h : loopsIn (f132.lp K) f132.c = [] := by kernel_rfl
  rw [h]; simp)
def f132.T (K : Nat) (a0 : List Int) (a1 : List Int) (m0 : List Int) : Option (List Int × List Int) :=
  (f34.F K (m0, a1)).bind fun y1 =>
  (f44.F K (a0, y1.1)).bind fun y2 =>
  bif (decide (y2 ≥ 0)) then
    (f34.F K (a0, y1.1)).bind fun y4 =>
    some (y4.1, m0)
  else
    (f32.F K (a0, a1)).bind fun y5 =>
    some (y5.1, m0)
def f132.F (K : Nat) (x : List Int × List Int × List Int) : Option (List Int × List Int) := f132.T K x.1 x.2.1 x.2.2
def f132.av (x : List Int × List Int × List Int) : List VV := [.agg [.ints .u64 4 x.1], .agg [.ints .u64 4 x.2.1], .ptr 0 0]
def f132.bl (x : List Int × List Int × List Int) : List (Nat × Blk) := [(0, ([.ints .u64 4 x.2.2], 24, .norm))]
def f132.inA : VS → Option (List Int × List Int × List Int)
  | ⟨[(0, .agg [.ints .u64 4 a0]), (1, .agg [.ints .u64 4 a1]), (2, .ptr 0 0)], [(0, ([.ints .u64 4 m0], 24, .norm))], 1⟩ => some (a0, a1, m0)
  | _ => none
def f132.o0 (y : List Int × List Int) : VS := ⟨[(0, .agg [.ints .u64 4 y.1])], [(0, ([.ints .u64 4 y.2], 24, .norm))], 1⟩
def f132.des : ∀ α : Type, (List Int × List Int) → (VS → Option α) → Option α := (dv1 f132.o0)
def f132.out : List Int × List Int → VS := f132.o0
def f132.inR : VS → Option (List Int × List Int)
  | ⟨[(0, .agg [.ints .u64 4 y])], [(0, ([.ints .u64 4 z0], 24, .norm))], 1⟩ => some (y, z0)
  | _ => none
noncomputable def f132.E (K : Nat) : Entry := genE 1 f132.inA (f132.F K) f132.des
theorem f132.eq (K : Nat) (x : List Int × List Int × List Int) : f132.F K x = xrun (getA tys) (tabSp (f132.tab K)) Try.f132.ntmps 1 (f132.lp K) 400 f132.c ⟨initL 0 (f132.av x), f132.bl x, 1⟩ (contF (getA tys) 1 Try.f132.results.toList f132.inR) := by kernel_rfl
theorem f132.ok (K : Nat) : EntryOK Try.prog 132 (f132.E K) :=
  gen_ok mix tys_ok (f132.tabOK K) Try.func132 (by kernel_rfl : Try.f132.body = some f132.c) (by kernel_rfl) (f132.loops K) (av := f132.av) (bl := f132.bl) (out := f132.out) (fuel := 400)
    (by intro s x h; unfold f132.inA at h; split at h <;> simp at h; subst h; rfl) (fun _ => Nat.le_of_ble_eq_true rfl)
    (by intro s y h; unfold f132.inR at h; split at h <;> simp at h <;> subst h <;> rfl) (fun _ _ _ => rfl) (f132.eq K)
end Go.Proofs

namespace Go.Proofs
open Go.VM
/-! ### burrow/mods.by$3 -/
noncomputable def f133.c : Code := bodyOf Try.f133
def f133.lp (_ : Nat) : Nat → Option (Hint × Summ) := fun _ => none
noncomputable def f133.tab (K : Nat) : List (Nat × Entry) := [(36, (f36.E K)), (54, (f54.E K))]
theorem f133.tabOK (K : Nat) : SpecOK Try.prog (tabSp (f133.tab K)) := tab_ok ((tab_cons (f36.ok K) (tab_cons (f54.ok K) tab_nil)))
theorem f133.loops (K : Nat) : LoopsOK Try.prog 24 1 (f133.lp K) f133.c := loops_ok (by
  have h : loopsIn (f133.lp K) f133.c = [] := by kernel_rfl
  rw [h]; simp)
def f133.T (K : Nat) (a0 : List Int) (a1 : List Int) (m0 : List Int) : Option (List Int × List Int) :=
  (f36.F K (a0, a1)).bind fun y1 =>
  (f54.F K (y1.1, y1.2, m0)).bind fun y2 =>
  some (y2.1, m0)
def f133.F (K : Nat) (x : List Int × List Int × List Int) : Option (List Int × List Int) := f133.T K x.1 x.2.1 x.2.2
def f133.av (x : List Int × List Int × List Int) : List VV := [.agg [.ints .u64 4 x.1], .agg [.ints .u64 4 x.2.1], .ptr 0 0]
def f133.bl (x : List Int × List Int × List Int) : List (Nat × Blk) := [(0, ([.ints .u64 4 x.2.2], 24, .norm))]
def f133.inA : VS → Option (List Int × List Int × List Int)
  | ⟨[(0, .agg [.ints .u64 4 a0]), (1, .agg [.ints .u64 4 a1]), (2, .ptr 0 0)], [(0, ([.ints .u64 4 m0], 24, .norm))], 1⟩ => some (a0, a1, m0)
  | _ => none
def f133.o0 (y : List Int × List Int) : VS := ⟨[(0, .agg [.ints .u64 4 y.1])], [(0, ([.ints .u64 4 y.2], 24, .norm))], 1⟩
def f133.des : ∀ α : Type, (List Int × List Int) → (VS → Option α) → Option α := (dv1 f133.o0)
def f133.out : List Int × List Int → VS := f133.o0
def f133.inR : VS → Option (List Int × List Int)
  | ⟨[(0, .agg [.ints .u64 4 y])], [(0, ([.ints .u64 4 z0], 24, .norm))], 1⟩ => some (y, z0)
  | _ => none
noncomputable def f133.E (K : Nat) : Entry := genE 1 f133.inA (f133.F K) f133.des
theorem f133.eq (K : Nat) (x : List Int × List Int × List Int) : f133.F K x = xrun (getA tys) (tabSp (f133.tab K)) Try.f133.ntmps 1 (f133.lp K) 400 f133.c ⟨initL 0 (f133.av x), f133.bl x, 1⟩ (contF (getA tys) 1 Try.f133.results.toList f133.inR) := by kernel_rfl
theorem f133.ok (K : Nat) : EntryOK Try.prog 133 (f133.E K) :=
  gen_ok mix tys_ok (f133.tabOK K) Try.func133 (by kernel_rfl : Try.f133.body = some f133.c) (by kernel_rfl) (f133.loops K) (av := f133.av) (bl := f133.bl) (out := f133.out) (fuel := 400)
    (by intro s x h; unfold f133.inA at h; split at h <;> simp at h; subst h; rfl) (fun _ => Nat.le_of_ble_eq_true rfl)
    (by intro s y h; unfold f133.inR at h; split at h <;> simp at h <;> subst h <;> rfl) (fun _ _ _ => rfl) (f133.eq K)
end Go.Proofs

namespace Go.Proofs
open Go.VM
/-! ### burrow/mods.by$4 -/
noncomputable def f134.c : Code := bodyOf Try.f134
def f134.lp (_ : Nat) : Nat → Option (Hint × Summ) := fun _ => none
noncomputable def f134.tab (K : Nat) : List (Nat × Entry) := [(125, (f125.E K)), (135, (f135.E K)), (46, (f46.E K))]
theorem f134.tabOK (K : Nat) : SpecOK Try.prog (tabSp (f134.tab K)) := tab_ok ((tab_cons (f125.ok K) (tab_cons (f135.ok K) (tab_cons (f46.ok K) tab_nil))))
theorem f134.loops (K : Nat) : LoopsOK Try.prog 22 1 (f134.lp K) f134.c := loops_ok (by
  have h : loopsIn (f134.lp K) f134.c = [] := by kernel_rfl
  rw [h]; simp)
def f134.T (K : Nat) (a0 : List Int) (a1 : List Int) (m0 : List Int) : Option (List Int × List Int) :=
  (f125.F K ((List.getD a0 0 0), (List.getD a1 0 0))).bind fun y3 =>
  (f135.F K (y3.1, y3.2, (List.getD m0 0 0))).bind fun y5 =>
  (f46.F K y5).bind fun y6 =>
  some (y6, m0)
def f134.F (K : Nat) (x : List Int × List Int × List Int) : Option (List Int × List Int) := f134.T K x.1 x.2.1 x.2.2
def f134.av (x : List Int × List Int × List Int) : List VV := [.agg [.ints .u64 4 x.1], .agg [.ints .u64 4 x.2.1], .ptr 0 0]
def f134.bl (x : List Int × List Int × List Int) : List (Nat × Blk) := [(0, ([.ints .u64 4 x.2.2], 24, .norm))]
def f134.inA : VS → Option (List Int × List Int × List Int)
  | ⟨[(0, .agg [.ints .u64 4 a0]), (1, .agg [.ints .u64 4 a1]), (2, .ptr 0 0)], [(0, ([.ints .u64 4 m0], 24, .norm))], 1⟩ => some (a0, a1, m0)
  | _ => none
def f134.o0 (y : List Int × List Int) : VS := ⟨[(0, .agg [.ints .u64 4 y.1])], [(0, ([.ints .u64 4 y.2], 24, .norm))], 1⟩
def f134.des : ∀ α : Type, (List Int × List Int) → (VS → Option α) → Option α := (dv1 f134.o0)
def f134.out : List Int × List Int → VS := f134.o0
def f134.inR : VS → Option (List Int × List Int)
  | ⟨[(0, .agg [.ints .u64 4 y])], [(0, ([.ints .u64 4 z0], 24, .norm))], 1⟩ => some (y, z0)
  | _ => none
noncomputable def f134.E (K : Nat) : Entry := genE 1 f134.inA (f134.F K) f134.des
theorem f134.eq (K : Nat) (x : List Int × List Int × List Int) : f134.F K x = xrun (getA tys) (tabSp (f134.tab K)) Try.f134.ntmps 1 (f134.lp K) 400 f134.c ⟨initL 0 (f134.av x), f134.bl x, 1⟩ (contF (getA tys) 1 Try.f134.results.toList f134.inR) := by kernel_rfl
theorem f134.ok (K : Nat) : EntryOK Try.prog 134 (f134.E K) :=
  gen_ok mix tys_ok (f134.tabOK K) Try.func134 (by kernel_rfl : Try.f134.body = some f134.c) (by kernel_rfl) (f134.loops K) (av := f134.av) (bl := f134.bl) (out := f134.out) (fuel := 400)
    (by intro s x h; unfold f134.inA at h; split at h <;> simp at h; subst h; rfl) (fun _ => Nat.le_of_ble_eq_true rfl)
    (by intro s y h; unfold f134.inR at h; split at h <;> simp at h <;> subst h <;> rfl) (fun _ _ _ => rfl) (f134.eq K)
end Go.Proofs

namespace Go.Proofs
open Go.VM
/-! ### burrow/mods.Add -/
noncomputable def f61.c : Code := bodyOf Try.f61
def f61.lp (_ : Nat) : Nat → Option (Hint × Summ) := fun _ => none
noncomputable def f61.tab (K : Nat) : List (Nat × Entry) := [(104, (f104.E K)), (132, (f132.E K))]
theorem f61.tabOK (K : Nat) : SpecOK Try.prog (tabSp (f61.tab K)) := tab_ok ((tab_cons (f104.ok K) (tab_cons (f132.ok K) tab_nil)))
theorem f61.loops (K : Nat) : LoopsOK Try.prog 27 0 (f61.lp K) f61.c := loops_ok (by
  have h : loopsIn (f61.lp K) f61.c = [] := by kernel_rfl
  rw [h]; simp)
def f61.T (K : Nat) (a0 : List Int) (a1 : List Int) (a2 : List Int) : Option (List Int × Int) :=
  (f104.F K (a2, (spl (spl [] 0 4 a0) 4 4 a1))).bind fun y2 =>
  alt (fun y3 =>
    bif (y3.1 != 0) then
      some ([0, 0, 0, 0], y3.1)
    else
      none) (fun y4 =>
    alt (fun y5 =>
      bif (y5.1 != 0) then
        some ([0, 0, 0, 0], y5.1)
      else
        (f132.F K (a0, a1, y5.2.2)).bind fun y7 =>
        some (y7.1, 0)) (fun y6 =>
      bif (y6.1 != 0) then
        some ([0, 0, 0, 0], y6.1)
      else
        (f132.F K (a0, a1, y6.2.2)).bind fun y8 =>
        some (y8.1, 0)) y4) y2
def f61.F (K : Nat) (x : List Int × List Int × List Int) : Option (List Int × Int) := f61.T K x.1 x.2.1 x.2.2
def f61.av (x : List Int × List Int × List Int) : List VV := [.agg [.ints .u64 4 x.1], .agg [.ints .u64 4 x.2.1], .agg [.ints .u64 4 x.2.2]]
def f61.bl (_x : List Int × List Int × List Int) : List (Nat × Blk) := []
def f61.inA : VS → Option (List Int × List Int × List Int)
  | ⟨[(0, .agg [.ints .u64 4 a0]), (1, .agg [.ints .u64 4 a1]), (2, .agg [.ints .u64 4 a2])], [], 0⟩ => some (a0, a1, a2)
  | _ => none
def f61.o0 (y : List Int × Int) : VS := ⟨[(0, .tup [.agg [.ints .u64 4 y.1], .int .i64 y.2])], [], 0⟩
def f61.des : ∀ α : Type, (List Int × Int) → (VS → Option α) → Option α := (dv1 f61.o0)
def f61.out : List Int × Int → VS := f61.o0
def f61.inR : VS → Option (List Int × Int)
  | ⟨[(0, .tup [.agg [.ints .u64 4 y_0], .int .i64 y_1])], [], 0⟩ => some (y_0, y_1)
  | _ => none
noncomputable def f61.E (K : Nat) : Entry := genE 0 f61.inA (f61.F K) f61.des
theorem f61.eq (K : Nat) (x : List Int × List Int × List Int) : f61.F K x = xrun (getA tys) (tabSp (f61.tab K)) Try.f61.ntmps 0 (f61.lp K) 400 f61.c ⟨initL 0 (f61.av x), f61.bl x, 0⟩ (contF (getA tys) 0 Try.f61.results.toList f61.inR) := by kernel_rfl
theorem f61.ok (K : Nat) : EntryOK Try.prog 61 (f61.E K) :=
  gen_ok mix tys_ok (f61.tabOK K) Try.func61 (by kernel_rfl : Try.f61.body = some f61.c) (by kernel_rfl) (f61.loops K) (av := f61.av) (bl := f61.bl) (out := f61.out) (fuel := 400)
    (by intro s x h; unfold f61.inA at h; split at h <;> simp at h; subst h; rfl) (fun _ => Nat.le_of_ble_eq_true rfl)
    (by intro s y h; unfold f61.inR at h; split at h <;> simp at h <;> subst h <;> rfl) (fun _ _ _ => rfl) (f61.eq K)
end Go.Proofs

namespace Go.Proofs
open Go.VM
/-! ### burrow/mods.Sub -/
noncomputable def f62.c : Code := bodyOf Try.f62
def f62.lp (_ : Nat) : Nat → Option (Hint × Summ) := fun _ => none
noncomputable def f62.tab (K : Nat) : List (Nat × Entry) := [(104, (f104.E K)), (131, (f131.E K))]
theorem f62.tabOK (K : Nat) : SpecOK Try.prog (tabSp (f62.tab K)) := tab_ok ((tab_cons (f104.ok K) (tab_cons (f131.ok K) tab_nil)))
theorem f62.loops (K : Nat) : LoopsOK Try.prog 27 0 (f62.lp K) f62.c := loops_ok (by
  have h : loopsIn (f62.lp K) f62.c = [] := by kernel_rfl
  rw [h]; simp)
def f62.T (K : Nat) (a0 : List Int) (a1 : List Int) (a2 : List Int) : Option (List Int × Int) :=
  (f104.F K (a2, (spl (spl [] 0 4 a0) 4 4 a1))).bind fun y2 =>
  alt (fun y3 =>
    bif (y3.1 != 0) then
      some ([0, 0, 0, 0], y3.1)
    else
      none) (fun y4 =>
    alt (fun y5 =>
      bif (y5.1 != 0) then
        some ([0, 0, 0, 0], y5.1)
      else
        (f131.F K (a0, a1, y5.2.2)).bind fun y7 =>
        some (y7.1, 0)) (fun y6 =>
      bif (y6.1 != 0) then
        some ([0, 0, 0, 0], y6.1)
      else
        (f131.F K (a0, a1, y6.2.2)).bind fun y8 =>
        some (y8.1, 0)) y4) y2
def f62.F (K : Nat) (x : List Int × List Int × List Int) : Option (List Int × Int) := f62.T K x.1 x.2.1 x.2.2
def f62.av (x : List Int × List Int × List Int) : List VV := [.agg [.ints .u64 4 x.1], .agg [.ints .u64 4 x.2.1], .agg [.ints .u64 4 x.2.2]]
def f62.bl (_x : List Int × List Int × List Int) : List (Nat × Blk) := []
def f62.inA : VS → Option (List Int × List Int × List Int)
  | ⟨[(0, .agg [.ints .u64 4 a0]), (1, .agg [.ints .u64 4 a1]), (2, .agg [.ints .u64 4 a2])], [], 0⟩ => some (a0, a1, a2)
  | _ => none
def f62.o0 (y : List Int × Int) : VS := ⟨[(0, .tup [.agg [.ints .u64 4 y.1], .int .i64 y.2])], [], 0⟩
def f62.des : ∀ α : Type, (List Int × Int) → (VS → Option α) → Option α := (dv1 f62.o0)
def f62.out : List Int × Int → VS := f62.o0
def f62.inR : VS → Option (List Int × Int)
  | ⟨[(0, .tup [.agg [.ints .u64 4 y_0], .int .i64 y_1])], [], 0⟩ => some (y_0, y_1)
  | _ => none
noncomputable def f62.E (K : Nat) : Entry := genE 0 f62.inA (f62.F K) f62.des
theorem f62.eq (K : Nat) (x : List Int × List Int × List Int) : f62.F K x = xrun (getA tys) (tabSp (f62.tab K)) Try.f62.ntmps 0 (f62.lp K) 400 f62.c ⟨initL 0 (f62.av x), f62.bl x, 0⟩ (contF (getA tys) 0 Try.f62.results.toList f62.inR) := by kernel_rfl
theorem f62.ok (K : Nat) : EntryOK Try.prog 62 (f62.E K) :=
  gen_ok mix tys_ok (f62.tabOK K) Try.func62 (by kernel_rfl : Try.f62.body = some f62.c) (by kernel_rfl) (f62.loops K) (av := f62.av) (bl := f62.bl) (out := f62.out) (fuel := 400)
    (by intro s x h; unfold f62.inA at h; split at h <;> simp at h; subst h; rfl) (fun _ => Nat.le_of_ble_eq_true rfl)
    (by intro s y h; unfold f62.inR at h; split at h <;> simp at h <;> subst h <;> rfl) (fun _ _ _ => rfl) (f62.eq K)
end Go.Proofs

namespace Go.Proofs
open Go.VM
/-! ### burrow/mods.Mul -/
noncomputable def f63.c : Code := bodyOf Try.f63
def f63.lp (_ : Nat) : Nat → Option (Hint × Summ) := fun _ => none
noncomputable def f63.tab (K : Nat) : List (Nat × Entry) := [(104, (f104.E K)), (134, (f134.E K)), (133, (f133.E K))]
theorem f63.tabOK (K : Nat) : SpecOK Try.prog (tabSp (f63.tab K)) := tab_ok ((tab_cons (f104.ok K) (tab_cons (f134.ok K) (tab_cons (f133.ok K) tab_nil))))
theorem f63.loops (K : Nat) : LoopsOK Try.prog 27 0 (f63.lp K) f63.c := loops_ok (by
  have h : loopsIn (f63.lp K) f63.c = [] := by kernel_rfl
  rw [h]; simp)
def f63.T (K : Nat) (a0 : List Int) (a1 : List Int) (a2 : List Int) : Option (List Int × Int) :=
  (f104.F K (a2, (spl (spl [] 0 4 a0) 4 4 a1))).bind fun y2 =>
  alt (fun y3 =>
    bif (y3.1 != 0) then
      some ([0, 0, 0, 0], y3.1)
    else
      none) (fun y4 =>
    alt (fun y5 =>
      bif (y5.1 != 0) then
        some ([0, 0, 0, 0], y5.1)
      else
        (f134.F K (a0, a1, y5.2.2)).bind fun y7 =>
        some (y7.1, 0)) (fun y6 =>
      bif (y6.1 != 0) then
        some ([0, 0, 0, 0], y6.1)
      else
        (f133.F K (a0, a1, y6.2.2)).bind fun y8 =>
        some (y8.1, 0)) y4) y2
def f63.F (K : Nat) (x : List Int × List Int × List Int) : Option (List Int × Int) := f63.T K x.1 x.2.1 x.2.2
def f63.av (x : List Int × List Int × List Int) : List VV := [.agg [.ints .u64 4 x.1], .agg [.ints .u64 4 x.2.1], .agg [.ints .u64 4 x.2.2]]
def f63.bl (_x : List Int × List Int × List Int) : List (Nat × Blk) := []
def f63.inA : VS → Option (List Int × List Int × List Int)
  | ⟨[(0, .agg [.ints .u64 4 a0]), (1, .agg [.ints .u64 4 a1]), (2, .agg [.ints .u64 4 a2])], [], 0⟩ => some (a0, a1, a2)
  | _ => none
def f63.o0 (y : List Int × Int) : VS := ⟨[(0, .tup [.agg [.ints .u64 4 y.1], .int .i64 y.2])], [], 0⟩
def f63.des : ∀ α : Type, (List Int × Int) → (VS → Option α) → Option α := (dv1 f63.o0)
def f63.out : List Int × Int → VS := f63.o0
def f63.inR : VS → Option (List Int × Int)
  | ⟨[(0, .tup [.agg [.ints .u64 4 y_0], .int .i64 y_1])], [], 0⟩ => some (y_0, y_1)
  | _ => none
noncomputable def f63.E (K : Nat) : Entry := genE 0 f63.inA (f63.F K) f63.des
theorem f63.eq (K : Nat) (x : List Int × List Int × List Int) : f63.F K x = xrun (getA tys) (tabSp (f63.tab K)) Try.f63.ntmps 0 (f63.lp K) 400 f63.c ⟨initL 0 (f63.av x), f63.bl x, 0⟩ (contF (getA tys) 0 Try.f63.results.toList f63.inR) := by kernel_rfl
theorem f63.ok (K : Nat) : EntryOK Try.prog 63 (f63.E K) :=
  gen_ok mix tys_ok (f63.tabOK K) Try.func63 (by kernel_rfl : Try.f63.body = some f63.c) (by kernel_rfl) (f63.loops K) (av := f63.av) (bl := f63.bl) (out := f63.out) (fuel := 400)
    (by intro s x h; unfold f63.inA at h; split at h <;> simp at h; subst h; rfl) (fun _ => Nat.le_of_ble_eq_true rfl)
    (by intro s y h; unfold f63.inR at h; split at h <;> simp at h <;> subst h <;> rfl) (fun _ _ _ => rfl) (f63.eq K)
end Go.Proofs

namespace Go.Proofs
open Go.VM
/-! ### burrow/mods.Exp -/
noncomputable def f64.c : Code := bodyOf Try.f64
def f64.s0t (K : Nat) (_rec : Int × Int × List Int × List Int × List Int × List Int → Option (List Int × List Int)) (t25 : Int) (t26 : Int) (_b0 : List Int) (b1 : List Int) (b2 : List Int) (b4 : List Int) : Option (List Int × List Int) :=
  bif (decide (t26 < t25)) then
    (f40.F K (b1, t26)).bind fun y7 =>
    bif (y7 == 1) then
      none
    else
      none
  else
    some (b2, b4)
def f64.s0 (K : Nat) (rec : Int × Int × List Int × List Int × List Int × List Int → Option (List Int × List Int)) (x : Int × Int × List Int × List Int × List Int × List Int) : Option (List Int × List Int) := f64.s0t K rec x.1 x.2.1 x.2.2.1 x.2.2.2.1 x.2.2.2.2.1 x.2.2.2.2.2
noncomputable def f64.s0.b : Code := (findLoop 0 f64.c).getD .skip
def f64.s0.h : Hint := { lv := [3, 4, 6, 8, 10, 25, 26] }
def f64.s0.ho : Hint := { lv := [6, 10] }
def f64.s0.shp (x : Int × Int × List Int × List Int × List Int × List Int) : VS := ⟨[(3, .ptr 0 0), (4, .ptr 1 0), (6, .ptr 2 0), (8, .ptr 3 0), (10, .ptr 4 0), (25, .int .i64 x.1), (26, .int .i64 x.2.1)], [(0, ([.ints .u64 4 x.2.2.1], 24, .norm)), (1, ([.ints .u64 4 x.2.2.2.1], 24, .norm)), (2, ([.ints .u64 4 x.2.2.2.2.1], 24, .norm)), (3, ([.raw .nilFunc, .raw .nilFunc, .raw .nilFunc], 95, .norm)), (4, ([.ints .u64 4 x.2.2.2.2.2], 24, .norm))], 5⟩
def f64.s0.inX : VS → Option (Int × Int × List Int × List Int × List Int × List Int)
  | ⟨[(3, .ptr 0 0), (4, .ptr 1 0), (6, .ptr 2 0), (8, .ptr 3 0), (10, .ptr 4 0), (25, .int .i64 t25), (26, .int .i64 t26)], [(0, ([.ints .u64 4 b0], 24, .norm)), (1, ([.ints .u64 4 b1], 24, .norm)), (2, ([.ints .u64 4 b2], 24, .norm)), (3, ([.raw .nilFunc, .raw .nilFunc, .raw .nilFunc], 95, .norm)), (4, ([.ints .u64 4 b4], 24, .norm))], 5⟩ => some (t25, t26, b0, b1, b2, b4)
  | _ => none
def f64.s0.o0 (y : List Int × List Int) : VS := ⟨[(6, .ptr 0 0), (10, .ptr 1 0)], [(0, ([.ints .u64 4 y.1], 24, .norm)), (1, ([.ints .u64 4 y.2], 24, .norm))], 2⟩
def f64.s0.des : ∀ α : Type, (List Int × List Int) → (Ex → VS → Option α) → Option α := (des1 (.exit 0) f64.s0.o0)
def f64.s0.out : List Int × List Int → Ex × VS := (fun y => (.exit 0, f64.s0.o0 y))
theorem f64.s0.desOK : ∀ α y (k : Ex → VS → Option α), f64.s0.des α y k = k (f64.s0.out y).1 (f64.s0.out y).2 := (fun _ _ _ => rfl)
def f64.s0.inY : Ex → VS → Option (List Int × List Int)
  | .exit 0, ⟨[(6, .ptr 0 0), (10, .ptr 1 0)], [(0, ([.ints .u64 4 b0], 24, .norm)), (1, ([.ints .u64 4 b1], 24, .norm))], 2⟩ => some (b0, b1)
  | _, _ => none
def f64.s0bt (K : Nat) (rec : Int × Int × List Int × List Int × List Int × List Int × List Int → Option (List Int × List Int)) (t25 : Int) (t26 : Int) (b0 : List Int) (b1 : List Int) (b2 : List Int) (b4 : List Int) (b5 : List Int) : Option (List Int × List Int) :=
  bif (decide (t26 < t25)) then
    (f40.F K (b1, t26)).bind fun y14 =>
    bif (y14 == 1) then
      (f134.F K (b4, b0, b5)).bind fun y15 =>
      (f134.F K (b0, b0, y15.2)).bind fun y16 =>
      rec (t25, (IntKind.wrap .i64 (t26 + 1)), y16.1, b1, b2, y15.1, y16.2)
    else
      (f134.F K (b0, b0, b5)).bind fun y18 =>
      rec (t25, (IntKind.wrap .i64 (t26 + 1)), y18.1, b1, b2, b4, y18.2)
  else
    some (b2, b4)
def f64.s0b (K : Nat) (rec : Int × Int × List Int × List Int × List Int × List Int × List Int → Option (List Int × List Int)) (x : Int × Int × List Int × List Int × List Int × List Int × List Int) : Option (List Int × List Int) := f64.s0bt K rec x.1 x.2.1 x.2.2.1 x.2.2.2.1 x.2.2.2.2.1 x.2.2.2.2.2.1 x.2.2.2.2.2.2
noncomputable def f64.s0b.b : Code := (findLoop 0 f64.c).getD .skip
def f64.s0b.h : Hint := { lv := [3, 4, 6, 8, 10, 25, 26] }
def f64.s0b.ho : Hint := { lv := [6, 10] }
def f64.s0b.shp (x : Int × Int × List Int × List Int × List Int × List Int × List Int) : VS := ⟨[(3, .ptr 0 0), (4, .ptr 1 0), (6, .ptr 2 0), (8, .ptr 3 0), (10, .ptr 4 0), (25, .int .i64 x.1), (26, .int .i64 x.2.1)], [(0, ([.ints .u64 4 x.2.2.1], 24, .norm)), (1, ([.ints .u64 4 x.2.2.2.1], 24, .norm)), (2, ([.ints .u64 4 x.2.2.2.2.1], 24, .norm)), (3, ([.fn 132 [.ptr 5 0], .fn 131 [.ptr 5 0], .fn 134 [.ptr 5 0]], 95, .norm)), (4, ([.ints .u64 4 x.2.2.2.2.2.1], 24, .norm)), (5, ([.ints .u64 4 x.2.2.2.2.2.2], 24, .norm))], 6⟩
def f64.s0b.inX : VS → Option (Int × Int × List Int × List Int × List Int × List Int × List Int)
  | ⟨[(3, .ptr 0 0), (4, .ptr 1 0), (6, .ptr 2 0), (8, .ptr 3 0), (10, .ptr 4 0), (25, .int .i64 t25), (26, .int .i64 t26)], [(0, ([.ints .u64 4 b0], 24, .norm)), (1, ([.ints .u64 4 b1], 24, .norm)), (2, ([.ints .u64 4 b2], 24, .norm)), (3, ([.fn 132 [.ptr 5 0], .fn 131 [.ptr 5 0], .fn 134 [.ptr 5 0]], 95, .norm)), (4, ([.ints .u64 4 b4], 24, .norm)), (5, ([.ints .u64 4 b5], 24, .norm))], 6⟩ => some (t25, t26, b0, b1, b2, b4, b5)
  | _ => none
def f64.s0b.o0 (y : List Int × List Int) : VS := ⟨[(6, .ptr 0 0), (10, .ptr 1 0)], [(0, ([.ints .u64 4 y.1], 24, .norm)), (1, ([.ints .u64 4 y.2], 24, .norm))], 2⟩
def f64.s0b.des : ∀ α : Type, (List Int × List Int) → (Ex → VS → Option α) → Option α := (des1 (.exit 0) f64.s0b.o0)
def f64.s0b.out : List Int × List Int → Ex × VS := (fun y => (.exit 0, f64.s0b.o0 y))
theorem f64.s0b.desOK : ∀ α y (k : Ex → VS → Option α), f64.s0b.des α y k = k (f64.s0b.out y).1 (f64.s0b.out y).2 := (fun _ _ _ => rfl)
def f64.s0b.inY : Ex → VS → Option (List Int × List Int)
  | .exit 0, ⟨[(6, .ptr 0 0), (10, .ptr 1 0)], [(0, ([.ints .u64 4 b0], 24, .norm)), (1, ([.ints .u64 4 b1], 24, .norm))], 2⟩ => some (b0, b1)
  | _, _ => none
def f64.s0ct (K : Nat) (rec : Int × Int × List Int × List Int × List Int × List Int × List Int → Option (List Int × List Int)) (t25 : Int) (t26 : Int) (b0 : List Int) (b1 : List Int) (b2 : List Int) (b4 : List Int) (b5 : List Int) : Option (List Int × List Int) :=
  bif (decide (t26 < t25)) then
    (f40.F K (b1, t26)).bind fun y25 =>
    bif (y25 == 1) then
      (f133.F K (b4, b0, b5)).bind fun y26 =>
      (f133.F K (b0, b0, y26.2)).bind fun y27 =>
      rec (t25, (IntKind.wrap .i64 (t26 + 1)), y27.1, b1, b2, y26.1, y27.2)
    else
      (f133.F K (b0, b0, b5)).bind fun y29 =>
      rec (t25, (IntKind.wrap .i64 (t26 + 1)), y29.1, b1, b2, b4, y29.2)
  else
    some (b2, b4)
def f64.s0c (K : Nat) (rec : Int × Int × List Int × List Int × List Int × List Int × List Int → Option (List Int × List Int)) (x : Int × Int × List Int × List Int × List Int × List Int × List Int) : Option (List Int × List Int) := f64.s0ct K rec x.1 x.2.1 x.2.2.1 x.2.2.2.1 x.2.2.2.2.1 x.2.2.2.2.2.1 x.2.2.2.2.2.2
noncomputable def f64.s0c.b : Code := (findLoop 0 f64.c).getD .skip
def f64.s0c.h : Hint := { lv := [3, 4, 6, 8, 10, 25, 26] }
def f64.s0c.ho : Hint := { lv := [6, 10] }
def f64.s0c.shp (x : Int × Int × List Int × List Int × List Int × List Int × List Int) : VS := ⟨[(3, .ptr 0 0), (4, .ptr 1 0), (6, .ptr 2 0), (8, .ptr 3 0), (10, .ptr 4 0), (25, .int .i64 x.1), (26, .int .i64 x.2.1)], [(0, ([.ints .u64 4 x.2.2.1], 24, .norm)), (1, ([.ints .u64 4 x.2.2.2.1], 24, .norm)), (2, ([.ints .u64 4 x.2.2.2.2.1], 24, .norm)), (3, ([.fn 132 [.ptr 5 0], .fn 131 [.ptr 5 0], .fn 133 [.ptr 5 0]], 95, .norm)), (4, ([.ints .u64 4 x.2.2.2.2.2.1], 24, .norm)), (5, ([.ints .u64 4 x.2.2.2.2.2.2], 24, .norm))], 6⟩
def f64.s0c.inX : VS → Option (Int × Int × List Int × List Int × List Int × List Int × List Int)
  | ⟨[(3, .ptr 0 0), (4, .ptr 1 0), (6, .ptr 2 0), (8, .ptr 3 0), (10, .ptr 4 0), (25, .int .i64 t25), (26, .int .i64 t26)], [(0, ([.ints .u64 4 b0], 24, .norm)), (1, ([.ints .u64 4 b1], 24, .norm)), (2, ([.ints .u64 4 b2], 24, .norm)), (3, ([.fn 132 [.ptr 5 0], .fn 131 [.ptr 5 0], .fn 133 [.ptr 5 0]], 95, .norm)), (4, ([.ints .u64 4 b4], 24, .norm)), (5, ([.ints .u64 4 b5], 24, .norm))], 6⟩ => some (t25, t26, b0, b1, b2, b4, b5)
  | _ => none
def f64.s0c.o0 (y : List Int × List Int) : VS := ⟨[(6, .ptr 0 0), (10, .ptr 1 0)], [(0, ([.ints .u64 4 y.1], 24, .norm)), (1, ([.ints .u64 4 y.2], 24, .norm))], 2⟩
def f64.s0c.des : ∀ α : Type, (List Int × List Int) → (Ex → VS → Option α) → Option α := (des1 (.exit 0) f64.s0c.o0)
def f64.s0c.out : List Int × List Int → Ex × VS := (fun y => (.exit 0, f64.s0c.o0 y))
theorem f64.s0c.desOK : ∀ α y (k : Ex → VS → Option α), f64.s0c.des α y k = k (f64.s0c.out y).1 (f64.s0c.out y).2 := (fun _ _ _ => rfl)
def f64.s0c.inY : Ex → VS → Option (List Int × List Int)
  | .exit 0, ⟨[(6, .ptr 0 0), (10, .ptr 1 0)], [(0, ([.ints .u64 4 b0], 24, .norm)), (1, ([.ints .u64 4 b1], 24, .norm))], 2⟩ => some (b0, b1)
  | _, _ => none
def f64.lp (K : Nat) : Nat → Option (Hint × Summ) := tabLp [(0, f64.s0.h, summOr f64.s0.inX (summOf (iter (f64.s0 K) K) f64.s0.inX f64.s0.des) (summOr f64.s0b.inX (summOf (iter (f64.s0b K) K) f64.s0b.inX f64.s0b.des) (summOf (iter (f64.s0c K) K) f64.s0c.inX f64.s0c.des)))]
noncomputable def f64.tab (K : Nat) : List (Nat × Entry) := [(104, (f104v1.E K)), (105, (f105.E K)), (42, (f42.E K)), (40, (f40.E K)), (134, (f134.E K)), (133, (f133.E K))]
theorem f64.tabOK (K : Nat) : SpecOK Try.prog (tabSp (f64.tab K)) := tab_ok ((tab_cons (f104v1.ok K) (tab_cons (f105.ok K) (tab_cons (f42.ok K) (tab_cons (f40.ok K) (tab_cons (f134.ok K) (tab_cons (f133.ok K) tab_nil)))))))
theorem f64.s0.eq (K : Nat) (rec : Int × Int × List Int × List Int × List Int × List Int → Option (List Int × List Int)) (x : Int × Int × List Int × List Int × List Int × List Int) : f64.s0 K rec x = roundL (getA tys) (tabSp (f64.tab K)) 45 0 (f64.lp K) 400 f64.s0.b f64.s0.h f64.s0.ho f64.s0.shp f64.s0.inX f64.s0.inY rec x := by kernel_rfl
theorem f64.s0.lok (K : Nat) : LoopsOK Try.prog 45 0 (f64.lp K) f64.s0.b := loops_ok (by
  have h : loopsIn (f64.lp K) f64.s0.b = [] := by kernel_rfl
  rw [h]; simp)
theorem f64.s0.ok (K : Nat) : SummOK Try.prog 45 0 (summOf (iter (f64.s0 K) K) f64.s0.inX f64.s0.des) f64.s0.b :=
  loop_ok mix tys_ok (f64.tabOK K) (h := f64.s0.h) (ho := f64.s0.ho) (shp := f64.s0.shp) (inX := f64.s0.inX) (des := f64.s0.des) (out := f64.s0.out) (inY := f64.s0.inY) (fuel := 400)
    (by intro st x h; unfold f64.s0.inX at h; split at h <;> simp at h; subst h; rfl)
    (by intro e st y h; unfold f64.s0.inY at h; split at h <;> simp at h <;> subst h <;> rfl)
    f64.s0.desOK (f64.s0.lok K) (f64.s0 K) (f64.s0.eq K) K
theorem f64.s0b.eq (K : Nat) (rec : Int × Int × List Int × List Int × List Int × List Int × List Int → Option (List Int × List Int)) (x : Int × Int × List Int × List Int × List Int × List Int × List Int) : f64.s0b K rec x = roundL (getA tys) (tabSp (f64.tab K)) 45 0 (f64.lp K) 400 f64.s0b.b f64.s0b.h f64.s0b.ho f64.s0b.shp f64.s0b.inX f64.s0b.inY rec x := by kernel_rfl
theorem f64.s0b.lok (K : Nat) : LoopsOK Try.prog 45 0 (f64.lp K) f64.s0b.b := loops_ok (by
  have h : loopsIn (f64.lp K) f64.s0b.b = [] := by kernel_rfl
  rw [h]; simp)
theorem f64.s0b.ok (K : Nat) : SummOK Try.prog 45 0 (summOf (iter (f64.s0b K) K) f64.s0b.inX f64.s0b.des) f64.s0b.b :=
  loop_ok mix tys_ok (f64.tabOK K) (h := f64.s0b.h) (ho := f64.s0b.ho) (shp := f64.s0b.shp) (inX := f64.s0b.inX) (des := f64.s0b.des) (out := f64.s0b.out) (inY := f64.s0b.inY) (fuel := 400)
    (by intro st x h; unfold f64.s0b.inX at h; split at h <;> simp at h; subst h; rfl)
    (by intro e st y h; unfold f64.s0b.inY at h; split at h <;> simp at h <;> subst h <;> rfl)
    f64.s0b.desOK (f64.s0b.lok K) (f64.s0b K) (f64.s0b.eq K) K
theorem f64.s0c.eq (K : Nat) (rec : Int × Int × List Int × List Int × List Int × List Int × List Int → Option (List Int × List Int)) (x : Int × Int × List Int × List Int × List Int × List Int × List Int) : f64.s0c K rec x = roundL (getA tys) (tabSp (f64.tab K)) 45 0 (f64.lp K) 400 f64.s0c.b f64.s0c.h f64.s0c.ho f64.s0c.shp f64.s0c.inX f64.s0c.inY rec x := by kernel_rfl
theorem f64.s0c.lok (K : Nat) : LoopsOK Try.prog 45 0 (f64.lp K) f64.s0c.b := loops_ok (by
  have h : loopsIn (f64.lp K) f64.s0c.b = [] := by kernel_rfl
  rw [h]; simp)
theorem f64.s0c.ok (K : Nat) : SummOK Try.prog 45 0 (summOf (iter (f64.s0c K) K) f64.s0c.inX f64.s0c.des) f64.s0c.b :=
  loop_ok mix tys_ok (f64.tabOK K) (h := f64.s0c.h) (ho := f64.s0c.ho) (shp := f64.s0c.shp) (inX := f64.s0c.inX) (des := f64.s0c.des) (out := f64.s0c.out) (inY := f64.s0c.inY) (fuel := 400)
    (by intro st x h; unfold f64.s0c.inX at h; split at h <;> simp at h; subst h; rfl)
    (by intro e st y h; unfold f64.s0c.inY at h; split at h <;> simp at h <;> subst h <;> rfl)
    f64.s0c.desOK (f64.s0c.lok K) (f64.s0c K) (f64.s0c.eq K) K
theorem f64.loops (K : Nat) : LoopsOK Try.prog 45 0 (f64.lp K) f64.c := loops_ok (by
  have h : loopsIn (f64.lp K) f64.c = [(0, f64.s0.b)] := by kernel_rfl
  rw [h]
  intro p hp
  simp only [List.mem_cons, List.not_mem_nil, or_false] at hp
  rcases hp with rfl
  · exact ⟨_, rfl, (summOr_ok (f64.s0.ok K) (summOr_ok (f64.s0b.ok K) (f64.s0c.ok K)))⟩)
def f64.T (K : Nat) (a0 : List Int) (a1 : List Int) (a2 : List Int) : Option (List Int × Int) :=
  (f104v1.F K (a2, a0)).bind fun y1 =>
  alt (fun y2 =>
    bif (y2.1 != 0) then
      some ([0, 0, 0, 0], y2.1)
    else
      (f105.F K ()).bind fun y4 =>
      (f42.F K a1).bind fun y5 =>
      (iter (f64.s0 K) K (y5, 0, a0, a1, [0, 0, 0, 0], y4)).bind fun y8 =>
      some (y8.2, 0)) (fun y3 =>
    alt (fun y9 =>
      bif (y9.1 != 0) then
        some ([0, 0, 0, 0], y9.1)
      else
        (f105.F K ()).bind fun y11 =>
        (f42.F K a1).bind fun y12 =>
        (iter (f64.s0b K) K (y12, 0, a0, a1, [0, 0, 0, 0], y11, y9.2.2)).bind fun y20 =>
        some (y20.2, 0)) (fun y10 =>
      bif (y10.1 != 0) then
        some ([0, 0, 0, 0], y10.1)
      else
        (f105.F K ()).bind fun y22 =>
        (f42.F K a1).bind fun y23 =>
        (iter (f64.s0c K) K (y23, 0, a0, a1, [0, 0, 0, 0], y22, y10.2.2)).bind fun y31 =>
        some (y31.2, 0)) y3) y1
def f64.F (K : Nat) (x : List Int × List Int × List Int) : Option (List Int × Int) := f64.T K x.1 x.2.1 x.2.2
def f64.av (x : List Int × List Int × List Int) : List VV := [.agg [.ints .u64 4 x.1], .agg [.ints .u64 4 x.2.1], .agg [.ints .u64 4 x.2.2]]
def f64.bl (_x : List Int × List Int × List Int) : List (Nat × Blk) := []
def f64.inA : VS → Option (List Int × List Int × List Int)
  | ⟨[(0, .agg [.ints .u64 4 a0]), (1, .agg [.ints .u64 4 a1]), (2, .agg [.ints .u64 4 a2])], [], 0⟩ => some (a0, a1, a2)
  | _ => none
def f64.o0 (y : List Int × Int) : VS := ⟨[(0, .tup [.agg [.ints .u64 4 y.1], .int .i64 y.2])], [], 0⟩
def f64.des : ∀ α : Type, (List Int × Int) → (VS → Option α) → Option α := (dv1 f64.o0)
def f64.out : List Int × Int → VS := f64.o0
def f64.inR : VS → Option (List Int × Int)
  | ⟨[(0, .tup [.agg [.ints .u64 4 y_0], .int .i64 y_1])], [], 0⟩ => some (y_0, y_1)
  | _ => none
noncomputable def f64.E (K : Nat) : Entry := genE 0 f64.inA (f64.F K) f64.des
theorem f64.eq (K : Nat) (x : List Int × List Int × List Int) : f64.F K x = xrun (getA tys) (tabSp (f64.tab K)) Try.f64.ntmps 0 (f64.lp K) 400 f64.c ⟨initL 0 (f64.av x), f64.bl x, 0⟩ (contF (getA tys) 0 Try.f64.results.toList f64.inR) := by kernel_rfl
theorem f64.ok (K : Nat) : EntryOK Try.prog 64 (f64.E K) :=
  gen_ok mix tys_ok (f64.tabOK K) Try.func64 (by kernel_rfl : Try.f64.body = some f64.c) (by kernel_rfl) (f64.loops K) (av := f64.av) (bl := f64.bl) (out := f64.out) (fuel := 400)
    (by intro s x h; unfold f64.inA at h; split at h <;> simp at h; subst h; rfl) (fun _ => Nat.le_of_ble_eq_true rfl)
    (by intro s y h; unfold f64.inR at h; split at h <;> simp at h <;> subst h <;> rfl) (fun _ _ _ => rfl) (f64.eq K)
end Go.Proofs

namespace Go.Proofs
open Go.VM
/-! ### burrow/mods.Inv -/
noncomputable def f65.c : Code := bodyOf Try.f65
def f65.s0t (K : Nat) (_rec : List Int × List Int × List Int × List Int × List Int × List Int → Option (List Int × List Int × List Int)) (b0 : List Int) (b1 : List Int) (b3_0 : List Int) (b3_1 : List Int) (b4_0 : List Int) (_b4_1 : List Int) : Option (List Int × List Int × List Int) :=
  bif (!(eqL 4 b4_0 [0, 0, 0, 0] && true)) then
    (f52.F K (b3_0, b4_0)).bind fun y6 =>
    (f44.F K (y6.1, b0)).bind fun y7 =>
    bif (y7 == 0) then
      none
    else
      none
  else
    some (b1, b3_0, b3_1)
def f65.s0 (K : Nat) (rec : List Int × List Int × List Int × List Int × List Int × List Int → Option (List Int × List Int × List Int)) (x : List Int × List Int × List Int × List Int × List Int × List Int) : Option (List Int × List Int × List Int) := f65.s0t K rec x.1 x.2.1 x.2.2.1 x.2.2.2.1 x.2.2.2.2.1 x.2.2.2.2.2
noncomputable def f65.s0.b : Code := (findLoop 0 f65.c).getD .skip
def f65.s0.h : Hint := { lv := [3, 4, 6, 8, 9] }
def f65.s0.ho : Hint := { lv := [4, 8] }
def f65.s0.shp (x : List Int × List Int × List Int × List Int × List Int × List Int) : VS := ⟨[(3, .ptr 0 0), (4, .ptr 1 0), (6, .ptr 2 0), (8, .ptr 3 0), (9, .ptr 4 0)], [(0, ([.ints .u64 4 x.1], 24, .norm)), (1, ([.ints .u64 4 x.2.1], 24, .norm)), (2, ([.raw .nilFunc, .raw .nilFunc, .raw .nilFunc], 95, .norm)), (3, ([.ints .u64 4 x.2.2.1, .ints .u64 4 x.2.2.2.1], 99, .norm)), (4, ([.ints .u64 4 x.2.2.2.2.1, .ints .u64 4 x.2.2.2.2.2], 99, .norm))], 5⟩
def f65.s0.inX : VS → Option (List Int × List Int × List Int × List Int × List Int × List Int)
  | ⟨[(3, .ptr 0 0), (4, .ptr 1 0), (6, .ptr 2 0), (8, .ptr 3 0), (9, .ptr 4 0)], [(0, ([.ints .u64 4 b0], 24, .norm)), (1, ([.ints .u64 4 b1], 24, .norm)), (2, ([.raw .nilFunc, .raw .nilFunc, .raw .nilFunc], 95, .norm)), (3, ([.ints .u64 4 b3_0, .ints .u64 4 b3_1], 99, .norm)), (4, ([.ints .u64 4 b4_0, .ints .u64 4 b4_1], 99, .norm))], 5⟩ => some (b0, b1, b3_0, b3_1, b4_0, b4_1)
  | _ => none
def f65.s0.o0 (y : List Int × List Int × List Int) : VS := ⟨[(4, .ptr 0 0), (8, .ptr 1 0)], [(0, ([.ints .u64 4 y.1], 24, .norm)), (1, ([.ints .u64 4 y.2.1, .ints .u64 4 y.2.2], 99, .norm))], 2⟩
def f65.s0.des : ∀ α : Type, (List Int × List Int × List Int) → (Ex → VS → Option α) → Option α := (des1 (.exit 0) f65.s0.o0)
def f65.s0.out : List Int × List Int × List Int → Ex × VS := (fun y => (.exit 0, f65.s0.o0 y))
theorem f65.s0.desOK : ∀ α y (k : Ex → VS → Option α), f65.s0.des α y k = k (f65.s0.out y).1 (f65.s0.out y).2 := (fun _ _ _ => rfl)
def f65.s0.inY : Ex → VS → Option (List Int × List Int × List Int)
  | .exit 0, ⟨[(4, .ptr 0 0), (8, .ptr 1 0)], [(0, ([.ints .u64 4 b0], 24, .norm)), (1, ([.ints .u64 4 b1_0, .ints .u64 4 b1_1], 99, .norm))], 2⟩ => some (b0, b1_0, b1_1)
  | _, _ => none
def f65.s0bt (K : Nat) (rec : List Int × List Int × List Int × List Int × List Int × List Int × List Int → Option (List Int × List Int × List Int)) (b0 : List Int) (b1 : List Int) (b3_0 : List Int) (b3_1 : List Int) (b4_0 : List Int) (b4_1 : List Int) (b5 : List Int) : Option (List Int × List Int × List Int) :=
  bif (!(eqL 4 b4_0 [0, 0, 0, 0] && true)) then
    (f52.F K (b3_0, b4_0)).bind fun y16 =>
    (f44.F K (y16.1, b0)).bind fun y17 =>
    bif (y17 == 0) then
      (f134.F K ([0, 0, 0, 0], b4_1, b5)).bind fun y18 =>
      (f131.F K (b3_1, y18.1, y18.2)).bind fun y19 =>
      rec (b0, b1, b4_0, b4_1, y16.2.1, y19.1, y19.2)
    else
      (f134.F K (y16.1, b4_1, b5)).bind fun y20 =>
      (f131.F K (b3_1, y20.1, y20.2)).bind fun y21 =>
      rec (b0, b1, b4_0, b4_1, y16.2.1, y21.1, y21.2)
  else
    some (b1, b3_0, b3_1)
def f65.s0b (K : Nat) (rec : List Int × List Int × List Int × List Int × List Int × List Int × List Int → Option (List Int × List Int × List Int)) (x : List Int × List Int × List Int × List Int × List Int × List Int × List Int) : Option (List Int × List Int × List Int) := f65.s0bt K rec x.1 x.2.1 x.2.2.1 x.2.2.2.1 x.2.2.2.2.1 x.2.2.2.2.2.1 x.2.2.2.2.2.2
noncomputable def f65.s0b.b : Code := (findLoop 0 f65.c).getD .skip
def f65.s0b.h : Hint := { lv := [3, 4, 6, 8, 9] }
def f65.s0b.ho : Hint := { lv := [4, 8] }
def f65.s0b.shp (x : List Int × List Int × List Int × List Int × List Int × List Int × List Int) : VS := ⟨[(3, .ptr 0 0), (4, .ptr 1 0), (6, .ptr 2 0), (8, .ptr 3 0), (9, .ptr 4 0)], [(0, ([.ints .u64 4 x.1], 24, .norm)), (1, ([.ints .u64 4 x.2.1], 24, .norm)), (2, ([.fn 132 [.ptr 5 0], .fn 131 [.ptr 5 0], .fn 134 [.ptr 5 0]], 95, .norm)), (3, ([.ints .u64 4 x.2.2.1, .ints .u64 4 x.2.2.2.1], 99, .norm)), (4, ([.ints .u64 4 x.2.2.2.2.1, .ints .u64 4 x.2.2.2.2.2.1], 99, .norm)), (5, ([.ints .u64 4 x.2.2.2.2.2.2], 24, .norm))], 6⟩
def f65.s0b.inX : VS → Option (List Int × List Int × List Int × List Int × List Int × List Int × List Int)
  | ⟨[(3, .ptr 0 0), (4, .ptr 1 0), (6, .ptr 2 0), (8, .ptr 3 0), (9, .ptr 4 0)], [(0, ([.ints .u64 4 b0], 24, .norm)), (1, ([.ints .u64 4 b1], 24, .norm)), (2, ([.fn 132 [.ptr 5 0], .fn 131 [.ptr 5 0], .fn 134 [.ptr 5 0]], 95, .norm)), (3, ([.ints .u64 4 b3_0, .ints .u64 4 b3_1], 99, .norm)), (4, ([.ints .u64 4 b4_0, .ints .u64 4 b4_1], 99, .norm)), (5, ([.ints .u64 4 b5], 24, .norm))], 6⟩ => some (b0, b1, b3_0, b3_1, b4_0, b4_1, b5)
  | _ => none
def f65.s0b.o0 (y : List Int × List Int × List Int) : VS := ⟨[(4, .ptr 0 0), (8, .ptr 1 0)], [(0, ([.ints .u64 4 y.1], 24, .norm)), (1, ([.ints .u64 4 y.2.1, .ints .u64 4 y.2.2], 99, .norm))], 2⟩
def f65.s0b.des : ∀ α : Type, (List Int × List Int × List Int) → (Ex → VS → Option α) → Option α := (des1 (.exit 0) f65.s0b.o0)
def f65.s0b.out : List Int × List Int × List Int → Ex × VS := (fun y => (.exit 0, f65.s0b.o0 y))
theorem f65.s0b.desOK : ∀ α y (k : Ex → VS → Option α), f65.s0b.des α y k = k (f65.s0b.out y).1 (f65.s0b.out y).2 := (fun _ _ _ => rfl)
def f65.s0b.inY : Ex → VS → Option (List Int × List Int × List Int)
  | .exit 0, ⟨[(4, .ptr 0 0), (8, .ptr 1 0)], [(0, ([.ints .u64 4 b0], 24, .norm)), (1, ([.ints .u64 4 b1_0, .ints .u64 4 b1_1], 99, .norm))], 2⟩ => some (b0, b1_0, b1_1)
  | _, _ => none
def f65.s0ct (K : Nat) (rec : List Int × List Int × List Int × List Int × List Int × List Int × List Int → Option (List Int × List Int × List Int)) (b0 : List Int) (b1 : List Int) (b3_0 : List Int) (b3_1 : List Int) (b4_0 : List Int) (b4_1 : List Int) (b5 : List Int) : Option (List Int × List Int × List Int) :=
  bif (!(eqL 4 b4_0 [0, 0, 0, 0] && true)) then
    (f52.F K (b3_0, b4_0)).bind fun y28 =>
    (f44.F K (y28.1, b0)).bind fun y29 =>
    bif (y29 == 0) then
      (f133.F K ([0, 0, 0, 0], b4_1, b5)).bind fun y30 =>
      (f131.F K (b3_1, y30.1, y30.2)).bind fun y31 =>
      rec (b0, b1, b4_0, b4_1, y28.2.1, y31.1, y31.2)
    else
      (f133.F K (y28.1, b4_1, b5)).bind fun y32 =>
      (f131.F K (b3_1, y32.1, y32.2)).bind fun y33 =>
      rec (b0, b1, b4_0, b4_1, y28.2.1, y33.1, y33.2)
  else
    some (b1, b3_0, b3_1)
def f65.s0c (K : Nat) (rec : List Int × List Int × List Int × List Int × List Int × List Int × List Int → Option (List Int × List Int × List Int)) (x : List Int × List Int × List Int × List Int × List Int × List Int × List Int) : Option (List Int × List Int × List Int) := f65.s0ct K rec x.1 x.2.1 x.2.2.1 x.2.2.2.1 x.2.2.2.2.1 x.2.2.2.2.2.1 x.2.2.2.2.2.2
noncomputable def f65.s0c.b : Code := (findLoop 0 f65.c).getD .skip
def f65.s0c.h : Hint := { lv := [3, 4, 6, 8, 9] }
def f65.s0c.ho : Hint := { lv := [4, 8] }
def f65.s0c.shp (x : List Int × List Int × List Int × List Int × List Int × List Int × List Int) : VS := ⟨[(3, .ptr 0 0), (4, .ptr 1 0), (6, .ptr 2 0), (8, .ptr 3 0), (9, .ptr 4 0)], [(0, ([.ints .u64 4 x.1], 24, .norm)), (1, ([.ints .u64 4 x.2.1], 24, .norm)), (2, ([.fn 132 [.ptr 5 0], .fn 131 [.ptr 5 0], .fn 133 [.ptr 5 0]], 95, .norm)), (3, ([.ints .u64 4 x.2.2.1, .ints .u64 4 x.2.2.2.1], 99, .norm)), (4, ([.ints .u64 4 x.2.2.2.2.1, .ints .u64 4 x.2.2.2.2.2.1], 99, .norm)), (5, ([.ints .u64 4 x.2.2.2.2.2.2], 24, .norm))], 6⟩
def f65.s0c.inX : VS → Option (List Int × List Int × List Int × List Int × List Int × List Int × List Int)
  | ⟨[(3, .ptr 0 0), (4, .ptr 1 0), (6, .ptr 2 0), (8, .ptr 3 0), (9, .ptr 4 0)], [(0, ([.ints .u64 4 b0], 24, .norm)), (1, ([.ints .u64 4 b1], 24, .norm)), (2, ([.fn 132 [.ptr 5 0], .fn 131 [.ptr 5 0], .fn 133 [.ptr 5 0]], 95, .norm)), (3, ([.ints .u64 4 b3_0, .ints .u64 4 b3_1], 99, .norm)), (4, ([.ints .u64 4 b4_0, .ints .u64 4 b4_1], 99, .norm)), (5, ([.ints .u64 4 b5], 24, .norm))], 6⟩ => some (b0, b1, b3_0, b3_1, b4_0, b4_1, b5)
  | _ => none
def f65.s0c.o0 (y : List Int × List Int × List Int) : VS := ⟨[(4, .ptr 0 0), (8, .ptr 1 0)], [(0, ([.ints .u64 4 y.1], 24, .norm)), (1, ([.ints .u64 4 y.2.1, .ints .u64 4 y.2.2], 99, .norm))], 2⟩
def f65.s0c.des : ∀ α : Type, (List Int × List Int × List Int) → (Ex → VS → Option α) → Option α := (des1 (.exit 0) f65.s0c.o0)
def f65.s0c.out : List Int × List Int × List Int → Ex × VS := (fun y => (.exit 0, f65.s0c.o0 y))
theorem f65.s0c.desOK : ∀ α y (k : Ex → VS → Option α), f65.s0c.des α y k = k (f65.s0c.out y).1 (f65.s0c.out y).2 := (fun _ _ _ => rfl)
def f65.s0c.inY : Ex → VS → Option (List Int × List Int × List Int)
  | .exit 0, ⟨[(4, .ptr 0 0), (8, .ptr 1 0)], [(0, ([.ints .u64 4 b0], 24, .norm)), (1, ([.ints .u64 4 b1_0, .ints .u64 4 b1_1], 99, .norm))], 2⟩ => some (b0, b1_0, b1_1)
  | _, _ => none
def f65.lp (K : Nat) : Nat → Option (Hint × Summ) := tabLp [(0, f65.s0.h, summOr f65.s0.inX (summOf (iter (f65.s0 K) K) f65.s0.inX f65.s0.des) (summOr f65.s0b.inX (summOf (iter (f65.s0b K) K) f65.s0b.inX f65.s0b.des) (summOf (iter (f65.s0c K) K) f65.s0c.inX f65.s0c.des)))]
noncomputable def f65.tab (K : Nat) : List (Nat × Entry) := [(104, (f104v1.E K)), (105, (f105.E K)), (52, (f52.E K)), (44, (f44.E K)), (134, (f134.E K)), (131, (f131.E K)), (133, (f133.E K))]
theorem f65.tabOK (K : Nat) : SpecOK Try.prog (tabSp (f65.tab K)) := tab_ok ((tab_cons (f104v1.ok K) (tab_cons (f105.ok K) (tab_cons (f52.ok K) (tab_cons (f44.ok K) (tab_cons (f134.ok K) (tab_cons (f131.ok K) (tab_cons (f133.ok K) tab_nil))))))))
theorem f65.s0.eq (K : Nat) (rec : List Int × List Int × List Int × List Int × List Int × List Int → Option (List Int × List Int × List Int)) (x : List Int × List Int × List Int × List Int × List Int × List Int) : f65.s0 K rec x = roundL (getA tys) (tabSp (f65.tab K)) 68 0 (f65.lp K) 400 f65.s0.b f65.s0.h f65.s0.ho f65.s0.shp f65.s0.inX f65.s0.inY rec x := by kernel_rfl
theorem f65.s0.lok (K : Nat) : LoopsOK Try.prog 68 0 (f65.lp K) f65.s0.b := loops_ok (by
  have h : loopsIn (f65.lp K) f65.s0.b = [] := by kernel_rfl
  rw [h]; simp)
theorem f65.s0.ok (K : Nat) : SummOK Try.prog 68 0 (summOf (iter (f65.s0 K) K) f65.s0.inX f65.s0.des) f65.s0.b :=
  loop_ok mix tys_ok (f65.tabOK K) (h := f65.s0.h) (ho := f65.s0.ho) (shp := f65.s0.shp) (inX := f65.s0.inX) (des := f65.s0.des) (out := f65.s0.out) (inY := f65.s0.inY) (fuel := 400)
    (by intro st x h; unfold f65.s0.inX at h; split at h <;> simp at h; subst h; rfl)
    (by intro e st y h; unfold f65.s0.inY at h; split at h <;> simp at h <;> subst h <;> rfl)
    f65.s0.desOK (f65.s0.lok K) (f65.s0 K) (f65.s0.eq K) K
theorem f65.s0b.eq (K : Nat) (rec : List Int × List Int × List Int × List Int × List Int × List Int × List Int → Option (List Int × List Int × List Int)) (x : List Int × List Int × List Int × List Int × List Int × List Int × List Int) : f65.s0b K rec x = roundL (getA tys) (tabSp (f65.tab K)) 68 0 (f65.lp K) 400 f65.s0b.b f65.s0b.h f65.s0b.ho f65.s0b.shp f65.s0b.inX f65.s0b.inY rec x := by kernel_rfl
theorem f65.s0b.lok (K : Nat) : LoopsOK Try.prog 68 0 (f65.lp K) f65.s0b.b := loops_ok (by
  have h : loopsIn (f65.lp K) f65.s0b.b = [] := by kernel_rfl
  rw [h]; simp)
theorem f65.s0b.ok (K : Nat) : SummOK Try.prog 68 0 (summOf (iter (f65.s0b K) K) f65.s0b.inX f65.s0b.des) f65.s0b.b :=
  loop_ok mix tys_ok (f65.tabOK K) (h := f65.s0b.h) (ho := f65.s0b.ho) (shp := f65.s0b.shp) (inX := f65.s0b.inX) (des := f65.s0b.des) (out := f65.s0b.out) (inY := f65.s0b.inY) (fuel := 400)
    (by intro st x h; unfold f65.s0b.inX at h; split at h <;> simp at h; subst h; rfl)
    (by intro e st y h; unfold f65.s0b.inY at h; split at h <;> simp at h <;> subst h <;> rfl)
    f65.s0b.desOK (f65.s0b.lok K) (f65.s0b K) (f65.s0b.eq K) K
theorem f65.s0c.eq (K : Nat) (rec : List Int × List Int × List Int × List Int × List Int × List Int × List Int → Option (List Int × List Int × List Int)) (x : List Int × List Int × List Int × List Int × List Int × List Int × List Int) : f65.s0c K rec x = roundL (getA tys) (tabSp (f65.tab K)) 68 0 (f65.lp K) 400 f65.s0c.b f65.s0c.h f65.s0c.ho f65.s0c.shp f65.s0c.inX f65.s0c.inY rec x := by kernel_rfl
theorem f65.s0c.lok (K : Nat) : LoopsOK Try.prog 68 0 (f65.lp K) f65.s0c.b := loops_ok (by
  have h : loopsIn (f65.lp K) f65.s0c.b = [] := by kernel_rfl
  rw [h]; simp)
theorem f65.s0c.ok (K : Nat) : SummOK Try.prog 68 0 (summOf (iter (f65.s0c K) K) f65.s0c.inX f65.s0c.des) f65.s0c.b :=
  loop_ok mix tys_ok (f65.tabOK K) (h := f65.s0c.h) (ho := f65.s0c.ho) (shp := f65.s0c.shp) (inX := f65.s0c.inX) (des := f65.s0c.des) (out := f65.s0c.out) (inY := f65.s0c.inY) (fuel := 400)
    (by intro st x h; unfold f65.s0c.inX at h; split at h <;> simp at h; subst h; rfl)
    (by intro e st y h; unfold f65.s0c.inY at h; split at h <;> simp at h <;> subst h <;> rfl)
    f65.s0c.desOK (f65.s0c.lok K) (f65.s0c K) (f65.s0c.eq K) K
theorem f65.loops (K : Nat) : LoopsOK Try.prog 68 0 (f65.lp K) f65.c := loops_ok (by
  have h : loopsIn (f65.lp K) f65.c = [(0, f65.s0.b)] := by kernel_rfl
  rw [h]
  intro p hp
  simp only [List.mem_cons, List.not_mem_nil, or_false] at hp
  rcases hp with rfl
  · exact ⟨_, rfl, (summOr_ok (f65.s0.ok K) (summOr_ok (f65.s0b.ok K) (f65.s0c.ok K)))⟩)
def f65.T (K : Nat) (a0 : List Int) (a1 : List Int) : Option (List Int × Int) :=
  (f104v1.F K (a1, a0)).bind fun y1 =>
  alt (fun y2 =>
    bif (y2.1 != 0) then
      some ([0, 0, 0, 0], y2.1)
    else
      (f105.F K ()).bind fun y4 =>
      (iter (f65.s0 K) K (a1, [0, 0, 0, 0], a1, [0, 0, 0, 0], a0, y4)).bind fun y8 =>
      (f105.F K ()).bind fun y9 =>
      bif (!(eqL 4 y8.2.1 y9 && true)) then
        some ([0, 0, 0, 0], 7)
      else
        some (y8.2.2, 0)) (fun y3 =>
    alt (fun y11 =>
      bif (y11.1 != 0) then
        some ([0, 0, 0, 0], y11.1)
      else
        (f105.F K ()).bind fun y14 =>
        (iter (f65.s0b K) K (a1, [0, 0, 0, 0], a1, [0, 0, 0, 0], a0, y14, y11.2.2)).bind fun y22 =>
        (f105.F K ()).bind fun y23 =>
        bif (!(eqL 4 y22.2.1 y23 && true)) then
          some ([0, 0, 0, 0], 7)
        else
          some (y22.2.2, 0)) (fun y12 =>
      bif (y12.1 != 0) then
        some ([0, 0, 0, 0], y12.1)
      else
        (f105.F K ()).bind fun y26 =>
        (iter (f65.s0c K) K (a1, [0, 0, 0, 0], a1, [0, 0, 0, 0], a0, y26, y12.2.2)).bind fun y34 =>
        (f105.F K ()).bind fun y35 =>
        bif (!(eqL 4 y34.2.1 y35 && true)) then
          some ([0, 0, 0, 0], 7)
        else
          some (y34.2.2, 0)) y3) y1
def f65.F (K : Nat) (x : List Int × List Int) : Option (List Int × Int) := f65.T K x.1 x.2
def f65.av (x : List Int × List Int) : List VV := [.agg [.ints .u64 4 x.1], .agg [.ints .u64 4 x.2]]
def f65.bl (_x : List Int × List Int) : List (Nat × Blk) := []
def f65.inA : VS → Option (List Int × List Int)
  | ⟨[(0, .agg [.ints .u64 4 a0]), (1, .agg [.ints .u64 4 a1])], [], 0⟩ => some (a0, a1)
  | _ => none
def f65.o0 (y : List Int × Int) : VS := ⟨[(0, .tup [.agg [.ints .u64 4 y.1], .int .i64 y.2])], [], 0⟩
def f65.des : ∀ α : Type, (List Int × Int) → (VS → Option α) → Option α := (dv1 f65.o0)
def f65.out : List Int × Int → VS := f65.o0
def f65.inR : VS → Option (List Int × Int)
  | ⟨[(0, .tup [.agg [.ints .u64 4 y_0], .int .i64 y_1])], [], 0⟩ => some (y_0, y_1)
  | _ => none
noncomputable def f65.E (K : Nat) : Entry := genE 0 f65.inA (f65.F K) f65.des
theorem f65.eq (K : Nat) (x : List Int × List Int) : f65.F K x = xrun (getA tys) (tabSp (f65.tab K)) Try.f65.ntmps 0 (f65.lp K) 400 f65.c ⟨initL 0 (f65.av x), f65.bl x, 0⟩ (contF (getA tys) 0 Try.f65.results.toList f65.inR) := by kernel_rfl
theorem f65.ok (K : Nat) : EntryOK Try.prog 65 (f65.E K) :=
  gen_ok mix tys_ok (f65.tabOK K) Try.func65 (by kernel_rfl : Try.f65.body = some f65.c) (by kernel_rfl) (f65.loops K) (av := f65.av) (bl := f65.bl) (out := f65.out) (fuel := 400)
    (by intro s x h; unfold f65.inA at h; split at h <;> simp at h; subst h; rfl) (fun _ => Nat.le_of_ble_eq_true rfl)
    (by intro s y h; unfold f65.inR at h; split at h <;> simp at h <;> subst h <;> rfl) (fun _ _ _ => rfl) (f65.eq K)
end Go.Proofs

namespace Go.Proofs
open Go.VM
/-! ### burrow/burrowlaw04.of -/
noncomputable def f75.c : Code := bodyOf Try.f75
def f75.lp (_ : Nat) : Nat → Option (Hint × Summ) := fun _ => none
noncomputable def f75.tab (K : Nat) : List (Nat × Entry) := [(46, (f46.E K))]
theorem f75.tabOK (K : Nat) : SpecOK Try.prog (tabSp (f75.tab K)) := tab_ok ((tab_cons (f46.ok K) tab_nil))
theorem f75.loops (K : Nat) : LoopsOK Try.prog 5 0 (f75.lp K) f75.c := loops_ok (by
  have h : loopsIn (f75.lp K) f75.c = [] := by kernel_rfl
  rw [h]; simp)
def f75.T (K : Nat) (a0 : Int) : Option (List Int) :=
  (f46.F K a0).bind fun y1 =>
  some y1
def f75.F (K : Nat) (x : Int) : Option (List Int) := f75.T K x
def f75.av (x : Int) : List VV := [.int .u64 x]
def f75.bl (_x : Int) : List (Nat × Blk) := []
def f75.inA : VS → Option (Int)
  | ⟨[(0, .int .u64 a0)], [], 0⟩ => some a0
  | _ => none
def f75.o0 (y : List Int) : VS := ⟨[(0, .agg [.ints .u64 4 y])], [], 0⟩
def f75.des : ∀ α : Type, (List Int) → (VS → Option α) → Option α := (dv1 f75.o0)
def f75.out : List Int → VS := f75.o0
def f75.inR : VS → Option (List Int)
  | ⟨[(0, .agg [.ints .u64 4 y])], [], 0⟩ => some y
  | _ => none
noncomputable def f75.E (K : Nat) : Entry := genE 0 f75.inA (f75.F K) f75.des
theorem f75.eq (K : Nat) (x : Int) : f75.F K x = xrun (getA tys) (tabSp (f75.tab K)) Try.f75.ntmps 0 (f75.lp K) 400 f75.c ⟨initL 0 (f75.av x), f75.bl x, 0⟩ (contF (getA tys) 0 Try.f75.results.toList f75.inR) := by kernel_rfl
theorem f75.ok (K : Nat) : EntryOK Try.prog 75 (f75.E K) :=
  gen_ok mix tys_ok (f75.tabOK K) Try.func75 (by kernel_rfl : Try.f75.body = some f75.c) (by kernel_rfl) (f75.loops K) (av := f75.av) (bl := f75.bl) (out := f75.out) (fuel := 400)
    (by intro s x h; unfold f75.inA at h; split at h <;> simp at h; subst h; rfl) (fun _ => Nat.le_of_ble_eq_true rfl)
    (by intro s y h; unfold f75.inR at h; split at h <;> simp at h <;> subst h <;> rfl) (fun _ _ _ => rfl) (f75.eq K)
end Go.Proofs

namespace Go.Proofs
open Go.VM
/-! ### burrow/burrowlaw04.none -/
noncomputable def f74.c : Code := bodyOf Try.f74
def f74.lp (_ : Nat) : Nat → Option (Hint × Summ) := fun _ => none
noncomputable def f74.tab (_K : Nat) : List (Nat × Entry) := []
theorem f74.tabOK (K : Nat) : SpecOK Try.prog (tabSp (f74.tab K)) := tab_ok ( tab_nil)
theorem f74.loops (K : Nat) : LoopsOK Try.prog 2 0 (f74.lp K) f74.c := loops_ok (by
  have h : loopsIn (f74.lp K) f74.c = [] := by kernel_rfl
  rw [h]; simp)
def f74.T (_K : Nat)  : Option (List Int) :=
  some ([0, 0, 0, 0])
def f74.F (K : Nat) (_x : Unit) : Option (List Int) := f74.T K 
def f74.av (_x : Unit) : List VV := []
def f74.bl (_x : Unit) : List (Nat × Blk) := []
def f74.inA : VS → Option (Unit)
  | ⟨[], [], 0⟩ => some ()
  | _ => none
def f74.o0 (y : List Int) : VS := ⟨[(0, .agg [.ints .u64 4 y])], [], 0⟩
def f74.des : ∀ α : Type, (List Int) → (VS → Option α) → Option α := (dv1 f74.o0)
def f74.out : List Int → VS := f74.o0
def f74.inR : VS → Option (List Int)
  | ⟨[(0, .agg [.ints .u64 4 y])], [], 0⟩ => some y
  | _ => none
noncomputable def f74.E (K : Nat) : Entry := genE 0 f74.inA (f74.F K) f74.des
theorem f74.eq (K : Nat) (x : Unit) : f74.F K x = xrun (getA tys) (tabSp (f74.tab K)) Try.f74.ntmps 0 (f74.lp K) 400 f74.c ⟨initL 0 (f74.av x), f74.bl x, 0⟩ (contF (getA tys) 0 Try.f74.results.toList f74.inR) := by kernel_rfl
theorem f74.ok (K : Nat) : EntryOK Try.prog 74 (f74.E K) :=
  gen_ok mix tys_ok (f74.tabOK K) Try.func74 (by kernel_rfl : Try.f74.body = some f74.c) (by kernel_rfl) (f74.loops K) (av := f74.av) (bl := f74.bl) (out := f74.out) (fuel := 400)
    (by intro s x h; unfold f74.inA at h; split at h <;> simp at h; rfl) (fun _ => Nat.le_of_ble_eq_true rfl)
    (by intro s y h; unfold f74.inR at h; split at h <;> simp at h <;> subst h <;> rfl) (fun _ _ _ => rfl) (f74.eq K)
end Go.Proofs

namespace Go.Proofs
open Go.VM
/-! ### burrow/burrowlaw04.rest -/
noncomputable def f73.c : Code := bodyOf Try.f73
def f73.lp (_ : Nat) : Nat → Option (Hint × Summ) := fun _ => none
noncomputable def f73.tab (K : Nat) : List (Nat × Entry) := [(52, (f52.E K))]
theorem f73.tabOK (K : Nat) : SpecOK Try.prog (tabSp (f73.tab K)) := tab_ok ((tab_cons (f52.ok K) tab_nil))
theorem f73.loops (K : Nat) : LoopsOK Try.prog 16 0 (f73.lp K) f73.c := loops_ok (by
  have h : loopsIn (f73.lp K) f73.c = [] := by kernel_rfl
  rw [h]; simp)
def f73.T (K : Nat) (a0 : List Int) (a1 : List Int) : Option (List Int) :=
  (f52.F K (a0, a1)).bind fun y1 =>
  some y1.2.1
def f73.F (K : Nat) (x : List Int × List Int) : Option (List Int) := f73.T K x.1 x.2
def f73.av (x : List Int × List Int) : List VV := [.agg [.ints .u64 4 x.1], .agg [.ints .u64 4 x.2]]
def f73.bl (_x : List Int × List Int) : List (Nat × Blk) := []
def f73.inA : VS → Option (List Int × List Int)
  | ⟨[(0, .agg [.ints .u64 4 a0]), (1, .agg [.ints .u64 4 a1])], [], 0⟩ => some (a0, a1)
  | _ => none
def f73.o0 (y : List Int) : VS := ⟨[(0, .agg [.ints .u64 4 y])], [], 0⟩
def f73.des : ∀ α : Type, (List Int) → (VS → Option α) → Option α := (dv1 f73.o0)
def f73.out : List Int → VS := f73.o0
def f73.inR : VS → Option (List Int)
  | ⟨[(0, .agg [.ints .u64 4 y])], [], 0⟩ => some y
  | _ => none
noncomputable def f73.E (K : Nat) : Entry := genE 0 f73.inA (f73.F K) f73.des
theorem f73.eq (K : Nat) (x : List Int × List Int) : f73.F K x = xrun (getA tys) (tabSp (f73.tab K)) Try.f73.ntmps 0 (f73.lp K) 400 f73.c ⟨initL 0 (f73.av x), f73.bl x, 0⟩ (contF (getA tys) 0 Try.f73.results.toList f73.inR) := by kernel_rfl
theorem f73.ok (K : Nat) : EntryOK Try.prog 73 (f73.E K) :=
  gen_ok mix tys_ok (f73.tabOK K) Try.func73 (by kernel_rfl : Try.f73.body = some f73.c) (by kernel_rfl) (f73.loops K) (av := f73.av) (bl := f73.bl) (out := f73.out) (fuel := 400)
    (by intro s x h; unfold f73.inA at h; split at h <;> simp at h; subst h; rfl) (fun _ => Nat.le_of_ble_eq_true rfl)
    (by intro s y h; unfold f73.inR at h; split at h <;> simp at h <;> subst h <;> rfl) (fun _ _ _ => rfl) (f73.eq K)
end Go.Proofs

namespace Go.Proofs
open Go.VM
/-! ### burrow/burrowlaw04.low -/
noncomputable def f71.c : Code := bodyOf Try.f71
def f71.lp (_ : Nat) : Nat → Option (Hint × Summ) := fun _ => none
noncomputable def f71.tab (K : Nat) : List (Nat × Entry) := [(75, (f75.E K)), (44, (f44.E K))]
theorem f71.tabOK (K : Nat) : SpecOK Try.prog (tabSp (f71.tab K)) := tab_ok ((tab_cons (f75.ok K) (tab_cons (f44.ok K) tab_nil)))
theorem f71.loops (K : Nat) : LoopsOK Try.prog 7 0 (f71.lp K) f71.c := loops_ok (by
  have h : loopsIn (f71.lp K) f71.c = [] := by kernel_rfl
  rw [h]; simp)
def f71.T (K : Nat) (a0 : List Int) : Option (Bool) :=
  (f75.F K 1).bind fun y1 =>
  (f44.F K (a0, y1)).bind fun y2 =>
  some (decide (y2 ≤ 0))
def f71.F (K : Nat) (x : List Int) : Option (Bool) := f71.T K x
def f71.av (x : List Int) : List VV := [.agg [.ints .u64 4 x]]
def f71.bl (_x : List Int) : List (Nat × Blk) := []
def f71.inA : VS → Option (List Int)
  | ⟨[(0, .agg [.ints .u64 4 a0])], [], 0⟩ => some a0
  | _ => none
def f71.o0 (y : Bool) : VS := ⟨[(0, .bool y)], [], 0⟩
def f71.des : ∀ α : Type, Bool → (VS → Option α) → Option α := (dv1 f71.o0)
def f71.out : Bool → VS := f71.o0
def f71.inR : VS → Option (Bool)
  | ⟨[(0, .bool y)], [], 0⟩ => some y
  | _ => none
noncomputable def f71.E (K : Nat) : Entry := genE 0 f71.inA (f71.F K) f71.des
theorem f71.eq (K : Nat) (x : List Int) : f71.F K x = xrun (getA tys) (tabSp (f71.tab K)) Try.f71.ntmps 0 (f71.lp K) 400 f71.c ⟨initL 0 (f71.av x), f71.bl x, 0⟩ (contF (getA tys) 0 Try.f71.results.toList f71.inR) := by kernel_rfl
theorem f71.ok (K : Nat) : EntryOK Try.prog 71 (f71.E K) :=
  gen_ok mix tys_ok (f71.tabOK K) Try.func71 (by kernel_rfl : Try.f71.body = some f71.c) (by kernel_rfl) (f71.loops K) (av := f71.av) (bl := f71.bl) (out := f71.out) (fuel := 400)
    (by intro s x h; unfold f71.inA at h; split at h <;> simp at h; subst h; rfl) (fun _ => Nat.le_of_ble_eq_true rfl)
    (by intro s y h; unfold f71.inR at h; split at h <;> simp at h <;> subst h <;> rfl) (fun _ _ _ => rfl) (f71.eq K)
end Go.Proofs

namespace Go.Proofs
open Go.VM
/-! ### burrow/burrowlaw04.says -/
noncomputable def f109.c : Code := bodyOf Try.f109
def f109.lp (_ : Nat) : Nat → Option (Hint × Summ) := fun _ => none
noncomputable def f109.tab (K : Nat) : List (Nat × Entry) := [(75, (f75.E K))]
theorem f109.tabOK (K : Nat) : SpecOK Try.prog (tabSp (f109.tab K)) := tab_ok ((tab_cons (f75.ok K) tab_nil))
theorem f109.loops (K : Nat) : LoopsOK Try.prog 15 0 (f109.lp K) f109.c := loops_ok (by
  have h : loopsIn (f109.lp K) f109.c = [] := by kernel_rfl
  rw [h]; simp)
def f109.T (K : Nat) (a0 : List Int) (a1 : Int) (a2 : Int) : Option (Bool) :=
  (f75.F K a2).bind fun y1 =>
  bif (eqL 4 a0 y1 && true) then
    some (a1 == 0)
  else
    some false
def f109.F (K : Nat) (x : List Int × Int × Int) : Option (Bool) := f109.T K x.1 x.2.1 x.2.2
def f109.av (x : List Int × Int × Int) : List VV := [.agg [.ints .u64 4 x.1], .int .i64 x.2.1, .int .u64 x.2.2]
def f109.bl (_x : List Int × Int × Int) : List (Nat × Blk) := []
def f109.inA : VS → Option (List Int × Int × Int)
  | ⟨[(0, .agg [.ints .u64 4 a0]), (1, .int .i64 a1), (2, .int .u64 a2)], [], 0⟩ => some (a0, a1, a2)
  | _ => none
def f109.o0 (y : Bool) : VS := ⟨[(0, .bool y)], [], 0⟩
def f109.des : ∀ α : Type, Bool → (VS → Option α) → Option α := (dv1 f109.o0)
def f109.out : Bool → VS := f109.o0
def f109.inR : VS → Option (Bool)
  | ⟨[(0, .bool y)], [], 0⟩ => some y
  | _ => none
noncomputable def f109.E (K : Nat) : Entry := genE 0 f109.inA (f109.F K) f109.des
theorem f109.eq (K : Nat) (x : List Int × Int × Int) : f109.F K x = xrun (getA tys) (tabSp (f109.tab K)) Try.f109.ntmps 0 (f109.lp K) 400 f109.c ⟨initL 0 (f109.av x), f109.bl x, 0⟩ (contF (getA tys) 0 Try.f109.results.toList f109.inR) := by kernel_rfl
theorem f109.ok (K : Nat) : EntryOK Try.prog 109 (f109.E K) :=
  gen_ok mix tys_ok (f109.tabOK K) Try.func109 (by kernel_rfl : Try.f109.body = some f109.c) (by kernel_rfl) (f109.loops K) (av := f109.av) (bl := f109.bl) (out := f109.out) (fuel := 400)
    (by intro s x h; unfold f109.inA at h; split at h <;> simp at h; subst h; rfl) (fun _ => Nat.le_of_ble_eq_true rfl)
    (by intro s y h; unfold f109.inR at h; split at h <;> simp at h <;> subst h <;> rfl) (fun _ _ _ => rfl) (f109.eq K)
end Go.Proofs

namespace Go.Proofs
open Go.VM
/-! ### burrow/burrowlaw04.alive -/
noncomputable def f72.c : Code := bodyOf Try.f72
def f72.lp (_ : Nat) : Nat → Option (Hint × Summ) := fun _ => none
noncomputable def f72.tab (K : Nat) : List (Nat × Entry) := [(75, (f75.E K)), (61, (f61.E K)), (62, (f62.E K)), (63, (f63.E K)), (64, (f64.E K)), (65, (f65.E K)), (74, (f74.E K)), (109, (f109.E K))]
theorem f72.tabOK (K : Nat) : SpecOK Try.prog (tabSp (f72.tab K)) := tab_ok ((tab_cons (f75.ok K) (tab_cons (f61.ok K) (tab_cons (f62.ok K) (tab_cons (f63.ok K) (tab_cons (f64.ok K) (tab_cons (f65.ok K) (tab_cons (f74.ok K) (tab_cons (f109.ok K) tab_nil)))))))))
theorem f72.loops (K : Nat) : LoopsOK Try.prog 132 0 (f72.lp K) f72.c := loops_ok (by
  have h : loopsIn (f72.lp K) f72.c = [] := by kernel_rfl
  rw [h]; simp)
def f72.T (K : Nat)  : Option (Bool) :=
  (f75.F K 5).bind fun y1 =>
  (f75.F K 6).bind fun y2 =>
  (f75.F K 7).bind fun y3 =>
  (f61.F K (y1, y2, y3)).bind fun y4 =>
  (f75.F K 2).bind fun y5 =>
  (f75.F K 6).bind fun y6 =>
  (f75.F K 7).bind fun y7 =>
  (f62.F K (y5, y6, y7)).bind fun y8 =>
  (f75.F K 5).bind fun y9 =>
  (f75.F K 6).bind fun y10 =>
  (f75.F K 7).bind fun y11 =>
  (f63.F K (y9, y10, y11)).bind fun y12 =>
  (f75.F K 3).bind fun y13 =>
  (f75.F K 6).bind fun y14 =>
  (f75.F K 7).bind fun y15 =>
  (f64.F K (y13, y14, y15)).bind fun y16 =>
  (f75.F K 3).bind fun y17 =>
  (f75.F K 7).bind fun y18 =>
  (f65.F K (y17, y18)).bind fun y19 =>
  (f75.F K 7).bind fun y20 =>
  (f74.F K ()).bind fun y21 =>
  (f75.F K 7).bind fun y22 =>
  (f61.F K (y20, y21, y22)).bind fun y23 =>
  (f74.F K ()).bind fun y24 =>
  (f74.F K ()).bind fun y25 =>
  (f75.F K 1).bind fun y26 =>
  (f63.F K (y24, y25, y26)).bind fun y27 =>
  (f75.F K 2).bind fun y28 =>
  (f75.F K 4).bind fun y29 =>
  (f65.F K (y28, y29)).bind fun y30 =>
  (f74.F K ()).bind fun y31 =>
  (f75.F K 5).bind fun y32 =>
  (f65.F K (y31, y32)).bind fun y33 =>
  (f74.F K ()).bind fun y34 =>
  (f74.F K ()).bind fun y35 =>
  (f75.F K 9).bind fun y36 =>
  (f64.F K (y34, y35, y36)).bind fun y37 =>
  (f109.F K (y4.1, y4.2, 4)).bind fun y38 =>
  bif y38 then
    (f109.F K (y8.1, y8.2, 3)).bind fun y39 =>
    bif y39 then
      (f109.F K (y12.1, y12.2, 2)).bind fun y40 =>
      bif y40 then
        (f109.F K (y16.1, y16.2, 1)).bind fun y41 =>
        bif y41 then
          (f109.F K (y19.1, y19.2, 5)).bind fun y42 =>
          bif y42 then
            bif (y23.2 == 1) then
              bif (y27.2 == 1) then
                bif (y30.2 == 7) then
                  bif (y33.2 == 7) then
                    (f109.F K (y37.1, y37.2, 1)).bind fun y47 =>
                    some y47
                  else
                    some false
                else
                  some false
              else
                some false
            else
              some false
          else
            some false
        else
          some false
      else
        some false
    else
      some false
  else
    some false
def f72.F (K : Nat) (_x : Unit) : Option (Bool) := f72.T K 
def f72.av (_x : Unit) : List VV := []
def f72.bl (_x : Unit) : List (Nat × Blk) := []
def f72.inA : VS → Option (Unit)
  | ⟨[], [], 0⟩ => some ()
  | _ => none
def f72.o0 (y : Bool) : VS := ⟨[(0, .bool y)], [], 0⟩
def f72.des : ∀ α : Type, Bool → (VS → Option α) → Option α := (dv1 f72.o0)
def f72.out : Bool → VS := f72.o0
def f72.inR : VS → Option (Bool)
  | ⟨[(0, .bool y)], [], 0⟩ => some y
  | _ => none
noncomputable def f72.E (K : Nat) : Entry := genE 0 f72.inA (f72.F K) f72.des
theorem f72.eq (K : Nat) (x : Unit) : f72.F K x = xrun (getA tys) (tabSp (f72.tab K)) Try.f72.ntmps 0 (f72.lp K) 400 f72.c ⟨initL 0 (f72.av x), f72.bl x, 0⟩ (contF (getA tys) 0 Try.f72.results.toList f72.inR) := by kernel_rfl
theorem f72.ok (K : Nat) : EntryOK Try.prog 72 (f72.E K) :=
  gen_ok mix tys_ok (f72.tabOK K) Try.func72 (by kernel_rfl : Try.f72.body = some f72.c) (by kernel_rfl) (f72.loops K) (av := f72.av) (bl := f72.bl) (out := f72.out) (fuel := 400)
    (by intro s x h; unfold f72.inA at h; split at h <;> simp at h; rfl) (fun _ => Nat.le_of_ble_eq_true rfl)
    (by intro s y h; unfold f72.inR at h; split at h <;> simp at h <;> subst h <;> rfl) (fun _ _ _ => rfl) (f72.eq K)
end Go.Proofs

namespace Go.Proofs
open Go.VM
/-! ### burrow/burrowlaw04.ModsRound -/
noncomputable def f18.c : Code := bodyOf Try.f18
def f18.lp (_ : Nat) : Nat → Option (Hint × Summ) := fun _ => none
noncomputable def f18.tab (K : Nat) : List (Nat × Entry) := [(71, (f71.E K)), (72, (f72.E K)), (73, (f73.E K)), (74, (f74.E K)), (62, (f62.E K)), (61, (f61.E K)), (75, (f75.E K)), (34, (f34.E K)), (63, (f63.E K))]
theorem f18.tabOK (K : Nat) : SpecOK Try.prog (tabSp (f18.tab K)) := tab_ok ((tab_cons (f71.ok K) (tab_cons (f72.ok K) (tab_cons (f73.ok K) (tab_cons (f74.ok K) (tab_cons (f62.ok K) (tab_cons (f61.ok K) (tab_cons (f75.ok K) (tab_cons (f34.ok K) (tab_cons (f63.ok K) tab_nil))))))))))
theorem f18.loops (K : Nat) : LoopsOK Try.prog 116 0 (f18.lp K) f18.c := loops_ok (by
  have h : loopsIn (f18.lp K) f18.c = [] := by kernel_rfl
  rw [h]; simp)
def f18.T (K : Nat) (a0 : List Int) (a1 : List Int) : Option (Bool) :=
  (f71.F K a1).bind fun y1 =>
  bif y1 then
    (f72.F K ()).bind fun y2 =>
    some y2
  else
    (f73.F K (a0, a1)).bind fun y3 =>
    (f74.F K ()).bind fun y4 =>
    (f62.F K (y4, y3, a1)).bind fun y5 =>
    (f61.F K (y3, y5.1, a1)).bind fun y6 =>
    (f75.F K 1).bind fun y7 =>
    (f34.F K (a1, y7)).bind fun y8 =>
    (f61.F K (y3, y8.1, a1)).bind fun y9 =>
    (f75.F K 1).bind fun y10 =>
    (f62.F K (y3, y10, a1)).bind fun y11 =>
    (f61.F K (y3, y3, a1)).bind fun y12 =>
    (f75.F K 2).bind fun y13 =>
    (f73.F K (y13, a1)).bind fun y14 =>
    (f63.F K (y3, y14, a1)).bind fun y15 =>
    (f72.F K ()).bind fun y16 =>
    bif y16 then
      bif (y5.2 == 0) then
        bif (y6.2 == 0) then
          bif (y9.2 == 0) then
            bif (y11.2 == 0) then
              bif (y12.2 == 0) then
                bif (y15.2 == 0) then
                  (f74.F K ()).bind fun y20 =>
                  bif (eqL 4 y6.1 y20 && true) then
                    bif (eqL 4 y9.1 y11.1 && true) then
                      some (eqL 4 y12.1 y15.1 && true)
                    else
                      some false
                  else
                    some false
                else
                  some false
              else
                some false
            else
              some false
          else
            some false
        else
          some false
      else
        some false
    else
      some false
def f18.F (K : Nat) (x : List Int × List Int) : Option (Bool) := f18.T K x.1 x.2
def f18.av (x : List Int × List Int) : List VV := [.agg [.ints .u64 4 x.1], .agg [.ints .u64 4 x.2]]
def f18.bl (_x : List Int × List Int) : List (Nat × Blk) := []
def f18.inA : VS → Option (List Int × List Int)
  | ⟨[(0, .agg [.ints .u64 4 a0]), (1, .agg [.ints .u64 4 a1])], [], 0⟩ => some (a0, a1)
  | _ => none
def f18.o0 (y : Bool) : VS := ⟨[(0, .bool y)], [], 0⟩
def f18.des : ∀ α : Type, Bool → (VS → Option α) → Option α := (dv1 f18.o0)
def f18.out : Bool → VS := f18.o0
def f18.inR : VS → Option (Bool)
  | ⟨[(0, .bool y)], [], 0⟩ => some y
  | _ => none
noncomputable def f18.E (K : Nat) : Entry := genE 0 f18.inA (f18.F K) f18.des
theorem f18.eq (K : Nat) (x : List Int × List Int) : f18.F K x = xrun (getA tys) (tabSp (f18.tab K)) Try.f18.ntmps 0 (f18.lp K) 400 f18.c ⟨initL 0 (f18.av x), f18.bl x, 0⟩ (contF (getA tys) 0 Try.f18.results.toList f18.inR) := by kernel_rfl
theorem f18.ok (K : Nat) : EntryOK Try.prog 18 (f18.E K) :=
  gen_ok mix tys_ok (f18.tabOK K) Try.func18 (by kernel_rfl : Try.f18.body = some f18.c) (by kernel_rfl) (f18.loops K) (av := f18.av) (bl := f18.bl) (out := f18.out) (fuel := 400)
    (by intro s x h; unfold f18.inA at h; split at h <;> simp at h; subst h; rfl) (fun _ => Nat.le_of_ble_eq_true rfl)
    (by intro s y h; unfold f18.inR at h; split at h <;> simp at h <;> subst h <;> rfl) (fun _ _ _ => rfl) (f18.eq K)
end Go.Proofs

namespace Go.Proofs
open Go.VM
/-! ### burrow/burrowlaw04.ModsLast -/
noncomputable def f19.c : Code := bodyOf Try.f19
def f19.lp (_ : Nat) : Nat → Option (Hint × Summ) := fun _ => none
noncomputable def f19.tab (K : Nat) : List (Nat × Entry) := [(71, (f71.E K)), (72, (f72.E K)), (73, (f73.E K)), (75, (f75.E K)), (34, (f34.E K)), (63, (f63.E K)), (74, (f74.E K)), (62, (f62.E K)), (65, (f65.E K))]
theorem f19.tabOK (K : Nat) : SpecOK Try.prog (tabSp (f19.tab K)) := tab_ok ((tab_cons (f71.ok K) (tab_cons (f72.ok K) (tab_cons (f73.ok K) (tab_cons (f75.ok K) (tab_cons (f34.ok K) (tab_cons (f63.ok K) (tab_cons (f74.ok K) (tab_cons (f62.ok K) (tab_cons (f65.ok K) tab_nil))))))))))
theorem f19.loops (K : Nat) : LoopsOK Try.prog 87 0 (f19.lp K) f19.c := loops_ok (by
  have h : loopsIn (f19.lp K) f19.c = [] := by kernel_rfl
  rw [h]; simp)
def f19.T (K : Nat) (a0 : List Int) (a1 : List Int) : Option (Bool) :=
  (f71.F K a1).bind fun y1 =>
  bif y1 then
    (f72.F K ()).bind fun y2 =>
    some y2
  else
    (f73.F K (a0, a1)).bind fun y3 =>
    (f75.F K 1).bind fun y4 =>
    (f34.F K (a1, y4)).bind fun y5 =>
    (f63.F K (y5.1, y5.1, a1)).bind fun y6 =>
    (f74.F K ()).bind fun y7 =>
    (f62.F K (y7, y3, a1)).bind fun y8 =>
    (f63.F K (y3, y5.1, a1)).bind fun y9 =>
    (f65.F K (y5.1, a1)).bind fun y10 =>
    (f72.F K ()).bind fun y11 =>
    bif y11 then
      bif (y6.2 == 0) then
        bif (y8.2 == 0) then
          bif (y9.2 == 0) then
            bif (y10.2 == 0) then
              (f75.F K 1).bind fun y13 =>
              bif (eqL 4 y6.1 y13 && true) then
                bif (eqL 4 y8.1 y9.1 && true) then
                  some (eqL 4 y10.1 y5.1 && true)
                else
                  some false
              else
                some false
            else
              some false
          else
            some false
        else
          some false
      else
        some false
    else
      some false
def f19.F (K : Nat) (x : List Int × List Int) : Option (Bool) := f19.T K x.1 x.2
def f19.av (x : List Int × List Int) : List VV := [.agg [.ints .u64 4 x.1], .agg [.ints .u64 4 x.2]]
def f19.bl (_x : List Int × List Int) : List (Nat × Blk) := []
def f19.inA : VS → Option (List Int × List Int)
  | ⟨[(0, .agg [.ints .u64 4 a0]), (1, .agg [.ints .u64 4 a1])], [], 0⟩ => some (a0, a1)
  | _ => none
def f19.o0 (y : Bool) : VS := ⟨[(0, .bool y)], [], 0⟩
def f19.des : ∀ α : Type, Bool → (VS → Option α) → Option α := (dv1 f19.o0)
def f19.out : Bool → VS := f19.o0
def f19.inR : VS → Option (Bool)
  | ⟨[(0, .bool y)], [], 0⟩ => some y
  | _ => none
noncomputable def f19.E (K : Nat) : Entry := genE 0 f19.inA (f19.F K) f19.des
theorem f19.eq (K : Nat) (x : List Int × List Int) : f19.F K x = xrun (getA tys) (tabSp (f19.tab K)) Try.f19.ntmps 0 (f19.lp K) 400 f19.c ⟨initL 0 (f19.av x), f19.bl x, 0⟩ (contF (getA tys) 0 Try.f19.results.toList f19.inR) := by kernel_rfl
theorem f19.ok (K : Nat) : EntryOK Try.prog 19 (f19.E K) :=
  gen_ok mix tys_ok (f19.tabOK K) Try.func19 (by kernel_rfl : Try.f19.body = some f19.c) (by kernel_rfl) (f19.loops K) (av := f19.av) (bl := f19.bl) (out := f19.out) (fuel := 400)
    (by intro s x h; unfold f19.inA at h; split at h <;> simp at h; subst h; rfl) (fun _ => Nat.le_of_ble_eq_true rfl)
    (by intro s y h; unfold f19.inR at h; split at h <;> simp at h <;> subst h <;> rfl) (fun _ _ _ => rfl) (f19.eq K)
end Go.Proofs

namespace Go.Proofs
open Go.VM
/-! ### burrow/burrowlaw04.ModsSteps -/
noncomputable def f20.c : Code := bodyOf Try.f20
def f20.lp (_ : Nat) : Nat → Option (Hint × Summ) := fun _ => none
noncomputable def f20.tab (K : Nat) : List (Nat × Entry) := [(71, (f71.E K)), (72, (f72.E K)), (73, (f73.E K)), (38, (f38.E K)), (75, (f75.E K)), (32, (f32.E K)), (64, (f64.E K)), (63, (f63.E K)), (74, (f74.E K))]
theorem f20.tabOK (K : Nat) : SpecOK Try.prog (tabSp (f20.tab K)) := tab_ok ((tab_cons (f71.ok K) (tab_cons (f72.ok K) (tab_cons (f73.ok K) (tab_cons (f38.ok K) (tab_cons (f75.ok K) (tab_cons (f32.ok K) (tab_cons (f64.ok K) (tab_cons (f63.ok K) (tab_cons (f74.ok K) tab_nil))))))))))
theorem f20.loops (K : Nat) : LoopsOK Try.prog 138 0 (f20.lp K) f20.c := loops_ok (by
  have h : loopsIn (f20.lp K) f20.c = [] := by kernel_rfl
  rw [h]; simp)
def f20.T (K : Nat) (a0 : List Int) (a1 : List Int) (a2 : List Int) : Option (Bool) :=
  (f71.F K a2).bind fun y1 =>
  bif y1 then
    (f72.F K ()).bind fun y2 =>
    some y2
  else
    (f73.F K (a0, a2)).bind fun y3 =>
    (f38.F K (a1, (-1))).bind fun y4 =>
    (f75.F K 1).bind fun y5 =>
    (f32.F K (y4, y5)).bind fun y6 =>
    (f64.F K (y3, y4, a2)).bind fun y7 =>
    (f64.F K (y3, y6.1, a2)).bind fun y8 =>
    (f38.F K (y4, 1)).bind fun y9 =>
    (f64.F K (y3, y9, a2)).bind fun y10 =>
    (f63.F K (y7.1, y3, a2)).bind fun y11 =>
    (f63.F K (y7.1, y7.1, a2)).bind fun y12 =>
    (f75.F K 1).bind fun y13 =>
    (f64.F K (y13, a1, a2)).bind fun y14 =>
    (f74.F K ()).bind fun y15 =>
    (f64.F K (y15, y6.1, a2)).bind fun y16 =>
    (f72.F K ()).bind fun y17 =>
    bif y17 then
      bif (y7.2 == 0) then
        bif (y8.2 == 0) then
          bif (y10.2 == 0) then
            bif (y11.2 == 0) then
              bif (y12.2 == 0) then
                bif (y14.2 == 0) then
                  bif (y16.2 == 0) then
                    bif (eqL 4 y8.1 y11.1 && true) then
                      bif (eqL 4 y10.1 y12.1 && true) then
                        (f75.F K 1).bind fun y25 =>
                        bif (eqL 4 y14.1 y25 && true) then
                          (f74.F K ()).bind fun y27 =>
                          some (eqL 4 y16.1 y27 && true)
                        else
                          some false
                      else
                        some false
                    else
                      some false
                  else
                    some false
                else
                  some false
              else
                some false
            else
              some false
          else
            some false
        else
          some false
      else
        some false
    else
      some false
def f20.F (K : Nat) (x : List Int × List Int × List Int) : Option (Bool) := f20.T K x.1 x.2.1 x.2.2
def f20.av (x : List Int × List Int × List Int) : List VV := [.agg [.ints .u64 4 x.1], .agg [.ints .u64 4 x.2.1], .agg [.ints .u64 4 x.2.2]]
def f20.bl (_x : List Int × List Int × List Int) : List (Nat × Blk) := []
def f20.inA : VS → Option (List Int × List Int × List Int)
  | ⟨[(0, .agg [.ints .u64 4 a0]), (1, .agg [.ints .u64 4 a1]), (2, .agg [.ints .u64 4 a2])], [], 0⟩ => some (a0, a1, a2)
  | _ => none
def f20.o0 (y : Bool) : VS := ⟨[(0, .bool y)], [], 0⟩
def f20.des : ∀ α : Type, Bool → (VS → Option α) → Option α := (dv1 f20.o0)
def f20.out : Bool → VS := f20.o0
def f20.inR : VS → Option (Bool)
  | ⟨[(0, .bool y)], [], 0⟩ => some y
  | _ => none
noncomputable def f20.E (K : Nat) : Entry := genE 0 f20.inA (f20.F K) f20.des
theorem f20.eq (K : Nat) (x : List Int × List Int × List Int) : f20.F K x = xrun (getA tys) (tabSp (f20.tab K)) Try.f20.ntmps 0 (f20.lp K) 400 f20.c ⟨initL 0 (f20.av x), f20.bl x, 0⟩ (contF (getA tys) 0 Try.f20.results.toList f20.inR) := by kernel_rfl
theorem f20.ok (K : Nat) : EntryOK Try.prog 20 (f20.E K) :=
  gen_ok mix tys_ok (f20.tabOK K) Try.func20 (by kernel_rfl : Try.f20.body = some f20.c) (by kernel_rfl) (f20.loops K) (av := f20.av) (bl := f20.bl) (out := f20.out) (fuel := 400)
    (by intro s x h; unfold f20.inA at h; split at h <;> simp at h; subst h; rfl) (fun _ => Nat.le_of_ble_eq_true rfl)
    (by intro s y h; unfold f20.inR at h; split at h <;> simp at h <;> subst h <;> rfl) (fun _ _ _ => rfl) (f20.eq K)
end Go.Proofs

namespace Go.Proofs
open Go.VM
/-! ### burrow/burrowlaw04.ModsBeyond -/
noncomputable def f22.c : Code := bodyOf Try.f22
def f22.lp (_ : Nat) : Nat → Option (Hint × Summ) := fun _ => none
noncomputable def f22.tab (K : Nat) : List (Nat × Entry) := [(71, (f71.E K)), (61, (f61.E K)), (62, (f62.E K)), (63, (f63.E K)), (64, (f64.E K)), (65, (f65.E K)), (72, (f72.E K)), (44, (f44.E K))]
theorem f22.tabOK (K : Nat) : SpecOK Try.prog (tabSp (f22.tab K)) := tab_ok ((tab_cons (f71.ok K) (tab_cons (f61.ok K) (tab_cons (f62.ok K) (tab_cons (f63.ok K) (tab_cons (f64.ok K) (tab_cons (f65.ok K) (tab_cons (f72.ok K) (tab_cons (f44.ok K) tab_nil)))))))))
theorem f22.loops (K : Nat) : LoopsOK Try.prog 114 0 (f22.lp K) f22.c := loops_ok (by
  have h : loopsIn (f22.lp K) f22.c = [] := by kernel_rfl
  rw [h]; simp)
def f22.T (K : Nat) (a0 : List Int) (a1 : List Int) (a2 : List Int) : Option (Bool) :=
  (f71.F K a2).bind fun y1 =>
  bif y1 then
    (f61.F K (a0, a1, a2)).bind fun y2 =>
    (f62.F K (a1, a0, a2)).bind fun y3 =>
    (f63.F K (a1, a0, a2)).bind fun y4 =>
    (f64.F K (a0, a1, a2)).bind fun y5 =>
    (f65.F K (a0, a2)).bind fun y6 =>
    (f72.F K ()).bind fun y7 =>
    bif y7 then
      bif ((y2.2 == 1) == true) then
        bif ((y3.2 == 1) == true) then
          bif ((y4.2 == 1) == true) then
            bif ((y5.2 == 1) == true) then
              bif ((y6.2 == 1) == true) then
                some true
              else
                some false
            else
              some false
          else
            some false
        else
          some false
      else
        some false
    else
      some false
  else
    (f44.F K (a0, a2)).bind fun y13 =>
    let v14 := decide (y13 ≥ 0)
    bif v14 then
      (f61.F K (a0, a1, a2)).bind fun y15 =>
      (f62.F K (a1, a0, a2)).bind fun y16 =>
      (f63.F K (a1, a0, a2)).bind fun y17 =>
      (f64.F K (a0, a1, a2)).bind fun y18 =>
      (f65.F K (a0, a2)).bind fun y19 =>
      (f72.F K ()).bind fun y20 =>
      bif y20 then
        bif ((y15.2 == 1) == true) then
          bif ((y16.2 == 1) == true) then
            bif ((y17.2 == 1) == true) then
              bif ((y18.2 == 1) == v14) then
                bif ((y19.2 == 1) == v14) then
                  some true
                else
                  some false
              else
                some false
            else
              some false
          else
            some false
        else
          some false
      else
        some false
    else
      (f44.F K (a1, a2)).bind fun y31 =>
      let v32 := decide (y31 ≥ 0)
      (f61.F K (a0, a1, a2)).bind fun y33 =>
      (f62.F K (a1, a0, a2)).bind fun y34 =>
      (f63.F K (a1, a0, a2)).bind fun y35 =>
      (f64.F K (a0, a1, a2)).bind fun y36 =>
      (f65.F K (a0, a2)).bind fun y37 =>
      (f72.F K ()).bind fun y38 =>
      bif y38 then
        bif ((y33.2 == 1) == v32) then
          bif ((y34.2 == 1) == v32) then
            bif ((y35.2 == 1) == v32) then
              bif ((y36.2 == 1) == v14) then
                bif ((y37.2 == 1) == v14) then
                  bif v32 then
                    some true
                  else
                    bif (y33.2 == 0) then
                      bif (y34.2 == 0) then
                        some (y35.2 == 0)
                      else
                        some false
                    else
                      some false
                else
                  some false
              else
                some false
            else
              some false
          else
            some false
        else
          some false
      else
        some false
def f22.F (K : Nat) (x : List Int × List Int × List Int) : Option (Bool) := f22.T K x.1 x.2.1 x.2.2
def f22.av (x : List Int × List Int × List Int) : List VV := [.agg [.ints .u64 4 x.1], .agg [.ints .u64 4 x.2.1], .agg [.ints .u64 4 x.2.2]]
def f22.bl (_x : List Int × List Int × List Int) : List (Nat × Blk) := []
def f22.inA : VS → Option (List Int × List Int × List Int)
  | ⟨[(0, .agg [.ints .u64 4 a0]), (1, .agg [.ints .u64 4 a1]), (2, .agg [.ints .u64 4 a2])], [], 0⟩ => some (a0, a1, a2)
  | _ => none
def f22.o0 (y : Bool) : VS := ⟨[(0, .bool y)], [], 0⟩
def f22.des : ∀ α : Type, Bool → (VS → Option α) → Option α := (dv1 f22.o0)
def f22.out : Bool → VS := f22.o0
def f22.inR : VS → Option (Bool)
  | ⟨[(0, .bool y)], [], 0⟩ => some y
  | _ => none
noncomputable def f22.E (K : Nat) : Entry := genE 0 f22.inA (f22.F K) f22.des
theorem f22.eq (K : Nat) (x : List Int × List Int × List Int) : f22.F K x = xrun (getA tys) (tabSp (f22.tab K)) Try.f22.ntmps 0 (f22.lp K) 400 f22.c ⟨initL 0 (f22.av x), f22.bl x, 0⟩ (contF (getA tys) 0 Try.f22.results.toList f22.inR) := by kernel_rfl
theorem f22.ok (K : Nat) : EntryOK Try.prog 22 (f22.E K) :=
  gen_ok mix tys_ok (f22.tabOK K) Try.func22 (by kernel_rfl : Try.f22.body = some f22.c) (by kernel_rfl) (f22.loops K) (av := f22.av) (bl := f22.bl) (out := f22.out) (fuel := 400)
    (by intro s x h; unfold f22.inA at h; split at h <;> simp at h; subst h; rfl) (fun _ => Nat.le_of_ble_eq_true rfl)
    (by intro s y h; unfold f22.inR at h; split at h <;> simp at h <;> subst h <;> rfl) (fun _ _ _ => rfl) (f22.eq K)
end Go.Proofs
