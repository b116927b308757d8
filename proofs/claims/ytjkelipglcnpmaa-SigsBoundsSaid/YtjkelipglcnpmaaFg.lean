/- Go functions: for each a Lean function with the same answers, and the proof that the call comes to them, with no condition. -/
import Derived.Test.YtjkelipglcnpmaaFl
import Derived.Test.YtjkelipglcnpmaaFm
namespace Go.Proofs
open Go.VM
noncomputable def f116.c : Code := bodyOf Try.f116
def f116.lp (_ : Nat) : Nat → Option (Hint × Summ) := fun _ => none
noncomputable def f116.tab (K : Nat) : List (Nat × Entry) := [(46, (f46.E K))]
theorem f116.tabOK (K : Nat) : SpecOK Try.prog (tabSp (f116.tab K)) := tab_ok ((tab_cons (f46.ok K) tab_nil))
theorem f116.loops (K : Nat) : LoopsOK Try.prog 2 0 (f116.lp K) f116.c := loops_ok (by
  have h : loopsIn (f116.lp K) f116.c = [] := by kernel_rfl
  rw [h]; simp)
def f116.T (K : Nat)  : Option (List Int) :=
  (f46.F K 1).bind fun y1 =>
  some y1
def f116.F (K : Nat) (_x : Unit) : Option (List Int) := f116.T K
def f116.av (_x : Unit) : List VV := []
def f116.bl (_x : Unit) : List (Nat × Blk) := []
def f116.inA : VS → Option (Unit)
  | ⟨[], [], 0⟩ => some ()
  | _ => none
def f116.o0 (y : List Int) : VS := ⟨[(0, .agg [.ints .u64 4 y])], [], 0⟩
def f116.des : ∀ α : Type, (List Int) → (VS → Option α) → Option α := (dv1 f116.o0)
def f116.out : List Int → VS := f116.o0
def f116.inR : VS → Option (List Int)
  | ⟨[(0, .agg [.ints .u64 4 y])], [], 0⟩ => some y
  | _ => none
noncomputable def f116.E (K : Nat) : Entry := genE 0 f116.inA (f116.F K) f116.des
theorem f116.eq (K : Nat) (x : Unit) : f116.F K x = xrun (getA tys) (tabSp (f116.tab K)) Try.f116.ntmps 0 (f116.lp K) 400 f116.c ⟨initL 0 (f116.av x), f116.bl x, 0⟩ (contF (getA tys) 0 Try.f116.results.toList f116.inR) := by kernel_rfl
theorem f116.ok (K : Nat) : EntryOK Try.prog 116 (f116.E K) :=
  gen_ok mix tys_ok (f116.tabOK K) Try.func116 (by kernel_rfl : Try.f116.body = some f116.c) (by kernel_rfl) (f116.loops K) (av := f116.av) (bl := f116.bl) (out := f116.out) (fuel := 400)
    (by intro s x h; unfold f116.inA at h; split at h <;> simp at h; rfl) (fun _ => Nat.le_of_ble_eq_true rfl)
    (by intro s y h; unfold f116.inR at h; split at h <;> simp at h <;> subst h <;> rfl) (fun _ _ _ => rfl) (f116.eq K)
end Go.Proofs

namespace Go.Proofs
open Go.VM
noncomputable def f127.c : Code := bodyOf Try.f127
def f127.lp (_ : Nat) : Nat → Option (Hint × Summ) := fun _ => none
noncomputable def f127.tab (K : Nat) : List (Nat × Entry) := [(116, (f116.E K)), (44, (f44.E K)), (46, (f46.E K))]
theorem f127.tabOK (K : Nat) : SpecOK Try.prog (tabSp (f127.tab K)) := tab_ok ((tab_cons (f116.ok K) (tab_cons (f44.ok K) (tab_cons (f46.ok K) tab_nil))))
theorem f127.loops (K : Nat) : LoopsOK Try.prog 24 0 (f127.lp K) f127.c := loops_ok (by
  have h : loopsIn (f127.lp K) f127.c = [] := by kernel_rfl
  rw [h]; simp)
def f127.T (K : Nat) (a0_0 : List Int) (_a0_1 : List Int) (_a0_2 : List Int) (a1 : List Int) : Option (Bool) :=
  (f116.F K ()).bind fun y1 =>
  (f44.F K (a0_0, y1)).bind fun y2 =>
  bif (decide (y2 > 0)) then
    (f46.F K 0).bind fun y4 =>
    bif (!(eqL 4 a1 y4 && true)) then
      (f44.F K (a1, a0_0)).bind fun y6 =>
      some (decide (y6 < 0))
    else
      some false
  else
    some false
def f127.F (K : Nat) (x : List Int × List Int × List Int × List Int) : Option (Bool) := f127.T K x.1 x.2.1 x.2.2.1 x.2.2.2
def f127.av (x : List Int × List Int × List Int × List Int) : List VV := [.agg [.ints .u64 4 x.1, .ints .u64 4 x.2.1, .ints .u64 4 x.2.2.1], .agg [.ints .u64 4 x.2.2.2]]
def f127.bl (_x : List Int × List Int × List Int × List Int) : List (Nat × Blk) := []
def f127.inA : VS → Option (List Int × List Int × List Int × List Int)
  | ⟨[(0, .agg [.ints .u64 4 a0_0, .ints .u64 4 a0_1, .ints .u64 4 a0_2]), (1, .agg [.ints .u64 4 a1])], [], 0⟩ => some (a0_0, a0_1, a0_2, a1)
  | _ => none
def f127.o0 (y : Bool) : VS := ⟨[(0, .bool y)], [], 0⟩
def f127.des : ∀ α : Type, Bool → (VS → Option α) → Option α := (dv1 f127.o0)
def f127.out : Bool → VS := f127.o0
def f127.inR : VS → Option (Bool)
  | ⟨[(0, .bool y)], [], 0⟩ => some y
  | _ => none
noncomputable def f127.E (K : Nat) : Entry := genE 0 f127.inA (f127.F K) f127.des
theorem f127.eq (K : Nat) (x : List Int × List Int × List Int × List Int) : f127.F K x = xrun (getA tys) (tabSp (f127.tab K)) Try.f127.ntmps 0 (f127.lp K) 400 f127.c ⟨initL 0 (f127.av x), f127.bl x, 0⟩ (contF (getA tys) 0 Try.f127.results.toList f127.inR) := by kernel_rfl
theorem f127.ok (K : Nat) : EntryOK Try.prog 127 (f127.E K) :=
  gen_ok mix tys_ok (f127.tabOK K) Try.func127 (by kernel_rfl : Try.f127.body = some f127.c) (by kernel_rfl) (f127.loops K) (av := f127.av) (bl := f127.bl) (out := f127.out) (fuel := 400)
    (by intro s x h; unfold f127.inA at h; split at h <;> simp at h; subst h; rfl) (fun _ => Nat.le_of_ble_eq_true rfl)
    (by intro s y h; unfold f127.inR at h; split at h <;> simp at h <;> subst h <;> rfl) (fun _ _ _ => rfl) (f127.eq K)
end Go.Proofs

namespace Go.Proofs
open Go.VM
noncomputable def f112.c : Code := bodyOf Try.f112
def f112.lp (_ : Nat) : Nat → Option (Hint × Summ) := fun _ => none
noncomputable def f112.tab (K : Nat) : List (Nat × Entry) := [(63, (f63.E K))]
theorem f112.tabOK (K : Nat) : SpecOK Try.prog (tabSp (f112.tab K)) := tab_ok ((tab_cons (f63.ok K) tab_nil))
theorem f112.loops (K : Nat) : LoopsOK Try.prog 15 0 (f112.lp K) f112.c := loops_ok (by
  have h : loopsIn (f112.lp K) f112.c = [] := by kernel_rfl
  rw [h]; simp)
def f112.T (K : Nat) (a0_0 : List Int) (_a0_1 : List Int) (_a0_2 : List Int) (a0_3 : List Int) (a0_4 : List Int) : Option (List Int × Int) :=
  (f63.F K (a0_3, a0_4, a0_0)).bind fun y1 =>
  some (y1.1, y1.2)
def f112.F (K : Nat) (x : List Int × List Int × List Int × List Int × List Int) : Option (List Int × Int) := f112.T K x.1 x.2.1 x.2.2.1 x.2.2.2.1 x.2.2.2.2
def f112.av (x : List Int × List Int × List Int × List Int × List Int) : List VV := [.agg [.ints .u64 4 x.1, .ints .u64 4 x.2.1, .ints .u64 4 x.2.2.1, .ints .u64 4 x.2.2.2.1, .ints .u64 4 x.2.2.2.2]]
def f112.bl (_x : List Int × List Int × List Int × List Int × List Int) : List (Nat × Blk) := []
def f112.inA : VS → Option (List Int × List Int × List Int × List Int × List Int)
  | ⟨[(0, .agg [.ints .u64 4 a0_0, .ints .u64 4 a0_1, .ints .u64 4 a0_2, .ints .u64 4 a0_3, .ints .u64 4 a0_4])], [], 0⟩ => some (a0_0, a0_1, a0_2, a0_3, a0_4)
  | _ => none
def f112.o0 (y : List Int × Int) : VS := ⟨[(0, .tup [.agg [.ints .u64 4 y.1], .int .i64 y.2])], [], 0⟩
def f112.des : ∀ α : Type, (List Int × Int) → (VS → Option α) → Option α := (dv1 f112.o0)
def f112.out : List Int × Int → VS := f112.o0
def f112.inR : VS → Option (List Int × Int)
  | ⟨[(0, .tup [.agg [.ints .u64 4 y_0], .int .i64 y_1])], [], 0⟩ => some (y_0, y_1)
  | _ => none
noncomputable def f112.E (K : Nat) : Entry := genE 0 f112.inA (f112.F K) f112.des
theorem f112.eq (K : Nat) (x : List Int × List Int × List Int × List Int × List Int) : f112.F K x = xrun (getA tys) (tabSp (f112.tab K)) Try.f112.ntmps 0 (f112.lp K) 400 f112.c ⟨initL 0 (f112.av x), f112.bl x, 0⟩ (contF (getA tys) 0 Try.f112.results.toList f112.inR) := by kernel_rfl
theorem f112.ok (K : Nat) : EntryOK Try.prog 112 (f112.E K) :=
  gen_ok mix tys_ok (f112.tabOK K) Try.func112 (by kernel_rfl : Try.f112.body = some f112.c) (by kernel_rfl) (f112.loops K) (av := f112.av) (bl := f112.bl) (out := f112.out) (fuel := 400)
    (by intro s x h; unfold f112.inA at h; split at h <;> simp at h; subst h; rfl) (fun _ => Nat.le_of_ble_eq_true rfl)
    (by intro s y h; unfold f112.inR at h; split at h <;> simp at h <;> subst h <;> rfl) (fun _ _ _ => rfl) (f112.eq K)
end Go.Proofs

namespace Go.Proofs
open Go.VM
noncomputable def f113.c : Code := bodyOf Try.f113
def f113.lp (_ : Nat) : Nat → Option (Hint × Summ) := fun _ => none
noncomputable def f113.tab (K : Nat) : List (Nat × Entry) := [(64, (f64.E K))]
theorem f113.tabOK (K : Nat) : SpecOK Try.prog (tabSp (f113.tab K)) := tab_ok ((tab_cons (f64.ok K) tab_nil))
theorem f113.loops (K : Nat) : LoopsOK Try.prog 15 0 (f113.lp K) f113.c := loops_ok (by
  have h : loopsIn (f113.lp K) f113.c = [] := by kernel_rfl
  rw [h]; simp)
def f113.T (K : Nat) (a0_0 : List Int) (_a0_1 : List Int) (_a0_2 : List Int) (a0_3 : List Int) (a0_4 : List Int) : Option (List Int × Int) :=
  (f64.F K (a0_3, a0_4, a0_0)).bind fun y1 =>
  some (y1.1, y1.2)
def f113.F (K : Nat) (x : List Int × List Int × List Int × List Int × List Int) : Option (List Int × Int) := f113.T K x.1 x.2.1 x.2.2.1 x.2.2.2.1 x.2.2.2.2
def f113.av (x : List Int × List Int × List Int × List Int × List Int) : List VV := [.agg [.ints .u64 4 x.1, .ints .u64 4 x.2.1, .ints .u64 4 x.2.2.1, .ints .u64 4 x.2.2.2.1, .ints .u64 4 x.2.2.2.2]]
def f113.bl (_x : List Int × List Int × List Int × List Int × List Int) : List (Nat × Blk) := []
def f113.inA : VS → Option (List Int × List Int × List Int × List Int × List Int)
  | ⟨[(0, .agg [.ints .u64 4 a0_0, .ints .u64 4 a0_1, .ints .u64 4 a0_2, .ints .u64 4 a0_3, .ints .u64 4 a0_4])], [], 0⟩ => some (a0_0, a0_1, a0_2, a0_3, a0_4)
  | _ => none
def f113.o0 (y : List Int × Int) : VS := ⟨[(0, .tup [.agg [.ints .u64 4 y.1], .int .i64 y.2])], [], 0⟩
def f113.des : ∀ α : Type, (List Int × Int) → (VS → Option α) → Option α := (dv1 f113.o0)
def f113.out : List Int × Int → VS := f113.o0
def f113.inR : VS → Option (List Int × Int)
  | ⟨[(0, .tup [.agg [.ints .u64 4 y_0], .int .i64 y_1])], [], 0⟩ => some (y_0, y_1)
  | _ => none
noncomputable def f113.E (K : Nat) : Entry := genE 0 f113.inA (f113.F K) f113.des
theorem f113.eq (K : Nat) (x : List Int × List Int × List Int × List Int × List Int) : f113.F K x = xrun (getA tys) (tabSp (f113.tab K)) Try.f113.ntmps 0 (f113.lp K) 400 f113.c ⟨initL 0 (f113.av x), f113.bl x, 0⟩ (contF (getA tys) 0 Try.f113.results.toList f113.inR) := by kernel_rfl
theorem f113.ok (K : Nat) : EntryOK Try.prog 113 (f113.E K) :=
  gen_ok mix tys_ok (f113.tabOK K) Try.func113 (by kernel_rfl : Try.f113.body = some f113.c) (by kernel_rfl) (f113.loops K) (av := f113.av) (bl := f113.bl) (out := f113.out) (fuel := 400)
    (by intro s x h; unfold f113.inA at h; split at h <;> simp at h; subst h; rfl) (fun _ => Nat.le_of_ble_eq_true rfl)
    (by intro s y h; unfold f113.inR at h; split at h <;> simp at h <;> subst h <;> rfl) (fun _ _ _ => rfl) (f113.eq K)
end Go.Proofs

namespace Go.Proofs
open Go.VM
end Go.Proofs

namespace Go.Proofs
open Go.VM
noncomputable def f111.c : Code := bodyOf Try.f111
def f111.s0t (K : Nat) (rec : List Int × List Int × List Int × List Int × List Int × Int × Int × List Int × List Int × List Int × List Int × List Int → Option ((List Int × List Int × List Int × List Int × List Int × Int × List Int × List Int) ⊕ (List Int × List Int × List Int × List Int × List Int × List Int × List Int))) (t1_0 : List Int) (t1_1 : List Int) (t1_2 : List Int) (t1_3 : List Int) (t1_4 : List Int) (t11 : Int) (t12 : Int) (b0 : List Int) (b1_0 : List Int) (b1_1 : List Int) (b1_2 : List Int) (b2 : List Int) : Option ((List Int × List Int × List Int × List Int × List Int × Int × List Int × List Int) ⊕ (List Int × List Int × List Int × List Int × List Int × List Int × List Int)) :=
  bif (decide (t12 < t11)) then
    bif decide (0 ≤ t12 ∧ t12 < 1) then
      (f127.F K (b1_0, b1_1, b1_2, (List.take 4 (List.drop ((Int.toNat t12) * 4) b0)))).bind fun y4 =>
      bif !y4 then
        some (.inl (t1_0, t1_1, t1_2, t1_3, t1_4, 1, b0, [0, 0, 0, 0]))
      else
        rec (t1_0, t1_1, t1_2, t1_3, t1_4, t11, (IntKind.wrap .i64 (t12 + 1)), b0, b1_0, b1_1, b1_2, b2)
    else
      none
  else
    some (.inr (t1_0, t1_1, t1_2, t1_3, t1_4, b0, b2))
def f111.s0 (K : Nat) (rec : List Int × List Int × List Int × List Int × List Int × Int × Int × List Int × List Int × List Int × List Int × List Int → Option ((List Int × List Int × List Int × List Int × List Int × Int × List Int × List Int) ⊕ (List Int × List Int × List Int × List Int × List Int × List Int × List Int))) (x : List Int × List Int × List Int × List Int × List Int × Int × Int × List Int × List Int × List Int × List Int × List Int) : Option ((List Int × List Int × List Int × List Int × List Int × Int × List Int × List Int) ⊕ (List Int × List Int × List Int × List Int × List Int × List Int × List Int)) := f111.s0t K rec x.1 x.2.1 x.2.2.1 x.2.2.2.1 x.2.2.2.2.1 x.2.2.2.2.2.1 x.2.2.2.2.2.2.1 x.2.2.2.2.2.2.2.1 x.2.2.2.2.2.2.2.2.1 x.2.2.2.2.2.2.2.2.2.1 x.2.2.2.2.2.2.2.2.2.2.1 x.2.2.2.2.2.2.2.2.2.2.2
noncomputable def f111.s0.b : Code := (findLoop 0 f111.c).getD .skip
def f111.s0.h : Hint := { lv := [1, 3, 6, 10, 11, 12] }
def f111.s0.ho : Hint := { lv := [1, 6, 7] }
def f111.s0.shp (x : List Int × List Int × List Int × List Int × List Int × Int × Int × List Int × List Int × List Int × List Int × List Int) : VS := ⟨[(1, .fm 113 [.agg [.ints .u64 4 x.1, .ints .u64 4 x.2.1, .ints .u64 4 x.2.2.1, .ints .u64 4 x.2.2.2.1, .ints .u64 4 x.2.2.2.2.1]]), (3, .ptr 1 0), (6, .ptr 2 0), (10, .sl 0 0 1 1), (11, .int .i64 x.2.2.2.2.2.1), (12, .int .i64 x.2.2.2.2.2.2.1)], [(0, ([.ints .u64 4 x.2.2.2.2.2.2.2.1], 24, .norm)), (1, ([.ints .u64 4 x.2.2.2.2.2.2.2.2.1, .ints .u64 4 x.2.2.2.2.2.2.2.2.2.1, .ints .u64 4 x.2.2.2.2.2.2.2.2.2.2.1], 105, .norm)), (2, ([.ints .u64 4 x.2.2.2.2.2.2.2.2.2.2.2], 24, .norm))], 3⟩
def f111.s0.inX : VS → Option (List Int × List Int × List Int × List Int × List Int × Int × Int × List Int × List Int × List Int × List Int × List Int)
  | ⟨[(1, .fm 113 [.agg [.ints .u64 4 t1_0, .ints .u64 4 t1_1, .ints .u64 4 t1_2, .ints .u64 4 t1_3, .ints .u64 4 t1_4]]), (3, .ptr 1 0), (6, .ptr 2 0), (10, .sl 0 0 1 1), (11, .int .i64 t11), (12, .int .i64 t12)], [(0, ([.ints .u64 4 b0], 24, .norm)), (1, ([.ints .u64 4 b1_0, .ints .u64 4 b1_1, .ints .u64 4 b1_2], 105, .norm)), (2, ([.ints .u64 4 b2], 24, .norm))], 3⟩ => some (t1_0, t1_1, t1_2, t1_3, t1_4, t11, t12, b0, b1_0, b1_1, b1_2, b2)
  | _ => none
def f111.s0.o0 (y : List Int × List Int × List Int × List Int × List Int × Int × List Int × List Int) : VS := ⟨[(1, .fm 113 [.agg [.ints .u64 4 y.1, .ints .u64 4 y.2.1, .ints .u64 4 y.2.2.1, .ints .u64 4 y.2.2.2.1, .ints .u64 4 y.2.2.2.2.1]]), (6, .ptr 1 0), (7, .int .i64 y.2.2.2.2.2.1)], [(0, ([.ints .u64 4 y.2.2.2.2.2.2.1], 24, .norm)), (1, ([.ints .u64 4 y.2.2.2.2.2.2.2], 24, .norm))], 2⟩
def f111.s0.o1 (y : List Int × List Int × List Int × List Int × List Int × List Int × List Int) : VS := ⟨[(1, .fm 113 [.agg [.ints .u64 4 y.1, .ints .u64 4 y.2.1, .ints .u64 4 y.2.2.1, .ints .u64 4 y.2.2.2.1, .ints .u64 4 y.2.2.2.2.1]]), (6, .ptr 1 0)], [(0, ([.ints .u64 4 y.2.2.2.2.2.1], 24, .norm)), (1, ([.ints .u64 4 y.2.2.2.2.2.2], 24, .norm))], 2⟩
def f111.s0.des : ∀ α : Type, ((List Int × List Int × List Int × List Int × List Int × Int × List Int × List Int) ⊕ (List Int × List Int × List Int × List Int × List Int × List Int × List Int)) → (Ex → VS → Option α) → Option α := (desA (des1 (.ret) f111.s0.o0) (des1 (.exit 0) f111.s0.o1))
def f111.s0.out : (List Int × List Int × List Int × List Int × List Int × Int × List Int × List Int) ⊕ (List Int × List Int × List Int × List Int × List Int × List Int × List Int) → Ex × VS := (alt (fun y => (.ret, f111.s0.o0 y)) (fun y => (.exit 0, f111.s0.o1 y)))
theorem f111.s0.desOK : ∀ α y (k : Ex → VS → Option α), f111.s0.des α y k = k (f111.s0.out y).1 (f111.s0.out y).2 := (desA_ok (fun _ _ _ => rfl) (fun _ _ _ => rfl))
def f111.s0.inY : Ex → VS → Option ((List Int × List Int × List Int × List Int × List Int × Int × List Int × List Int) ⊕ (List Int × List Int × List Int × List Int × List Int × List Int × List Int))
  | .ret, ⟨[(1, .fm 113 [.agg [.ints .u64 4 t1_0, .ints .u64 4 t1_1, .ints .u64 4 t1_2, .ints .u64 4 t1_3, .ints .u64 4 t1_4]]), (6, .ptr 1 0), (7, .int .i64 t7)], [(0, ([.ints .u64 4 b0], 24, .norm)), (1, ([.ints .u64 4 b1], 24, .norm))], 2⟩ => some (.inl (t1_0, t1_1, t1_2, t1_3, t1_4, t7, b0, b1))
  | .exit 0, ⟨[(1, .fm 113 [.agg [.ints .u64 4 t1_0, .ints .u64 4 t1_1, .ints .u64 4 t1_2, .ints .u64 4 t1_3, .ints .u64 4 t1_4]]), (6, .ptr 1 0)], [(0, ([.ints .u64 4 b0], 24, .norm)), (1, ([.ints .u64 4 b1], 24, .norm))], 2⟩ => some (.inr (t1_0, t1_1, t1_2, t1_3, t1_4, b0, b1))
  | _, _ => none
def f111.lp (K : Nat) : Nat → Option (Hint × Summ) := tabLp [(0, f111.s0.h, summOf (iter (f111.s0 K) K) f111.s0.inX f111.s0.des)]
noncomputable def f111.tab (K : Nat) : List (Nat × Entry) := [(127, (f127.E K)), (113, (f113.E K))]
theorem f111.tabOK (K : Nat) : SpecOK Try.prog (tabSp (f111.tab K)) := tab_ok ((tab_cons (f127.ok K) (tab_cons (f113.ok K) tab_nil)))
theorem f111.s0.eq (K : Nat) (rec : List Int × List Int × List Int × List Int × List Int × Int × Int × List Int × List Int × List Int × List Int × List Int → Option ((List Int × List Int × List Int × List Int × List Int × Int × List Int × List Int) ⊕ (List Int × List Int × List Int × List Int × List Int × List Int × List Int))) (x : List Int × List Int × List Int × List Int × List Int × Int × Int × List Int × List Int × List Int × List Int × List Int) : f111.s0 K rec x = roundL (getA tys) (tabSp (f111.tab K)) 26 1 (f111.lp K) 400 f111.s0.b f111.s0.h f111.s0.ho f111.s0.shp f111.s0.inX f111.s0.inY rec x := by kernel_rfl
theorem f111.s0.lok (K : Nat) : LoopsOK Try.prog 26 1 (f111.lp K) f111.s0.b := loops_ok (by
  have h : loopsIn (f111.lp K) f111.s0.b = [] := by kernel_rfl
  rw [h]; simp)
theorem f111.s0.ok (K : Nat) : SummOK Try.prog 26 1 (summOf (iter (f111.s0 K) K) f111.s0.inX f111.s0.des) f111.s0.b :=
  loop_ok mix tys_ok (f111.tabOK K) (h := f111.s0.h) (ho := f111.s0.ho) (shp := f111.s0.shp) (inX := f111.s0.inX) (des := f111.s0.des) (out := f111.s0.out) (inY := f111.s0.inY) (fuel := 400)
    (by intro st x h; unfold f111.s0.inX at h; split at h <;> simp at h; subst h; rfl)
    (by intro e st y h; unfold f111.s0.inY at h; split at h <;> simp at h <;> subst h <;> rfl)
    f111.s0.desOK (f111.s0.lok K) (f111.s0 K) (f111.s0.eq K) K
theorem f111.loops (K : Nat) : LoopsOK Try.prog 26 1 (f111.lp K) f111.c := loops_ok (by
  have h : loopsIn (f111.lp K) f111.c = [(0, f111.s0.b)] := by kernel_rfl
  rw [h]
  intro p hp
  simp only [List.mem_cons, List.not_mem_nil, or_false] at hp
  rcases hp with rfl
  · exact ⟨_, rfl, (f111.s0.ok K)⟩)
def f111.T (K : Nat) (a0_0 : List Int) (a0_1 : List Int) (a0_2 : List Int) (a1_0 : List Int) (a1_1 : List Int) (a1_2 : List Int) (a1_3 : List Int) (a1_4 : List Int) (m0 : List Int) : Option (List Int × Int × List Int) :=
  (iter (f111.s0 K) K (a1_0, a1_1, a1_2, a1_3, a1_4, 1, 0, m0, a0_0, a0_1, a0_2, [0, 0, 0, 0])).bind fun y6 =>
  alt (fun y7 =>
    some (y7.2.2.2.2.2.2.2, y7.2.2.2.2.2.1, y7.2.2.2.2.2.2.1)) (fun y8 =>
    (f113.F K (y8.1, y8.2.1, y8.2.2.1, y8.2.2.2.1, y8.2.2.2.2.1)).bind fun y10 =>
    some (y10.1, y10.2, y8.2.2.2.2.2.1)) y6
def f111.F (K : Nat) (x : List Int × List Int × List Int × List Int × List Int × List Int × List Int × List Int × List Int) : Option (List Int × Int × List Int) := f111.T K x.1 x.2.1 x.2.2.1 x.2.2.2.1 x.2.2.2.2.1 x.2.2.2.2.2.1 x.2.2.2.2.2.2.1 x.2.2.2.2.2.2.2.1 x.2.2.2.2.2.2.2.2
def f111.av (x : List Int × List Int × List Int × List Int × List Int × List Int × List Int × List Int × List Int) : List VV := [.agg [.ints .u64 4 x.1, .ints .u64 4 x.2.1, .ints .u64 4 x.2.2.1], .fm 113 [.agg [.ints .u64 4 x.2.2.2.1, .ints .u64 4 x.2.2.2.2.1, .ints .u64 4 x.2.2.2.2.2.1, .ints .u64 4 x.2.2.2.2.2.2.1, .ints .u64 4 x.2.2.2.2.2.2.2.1]], .sl 0 0 1 1]
def f111.bl (x : List Int × List Int × List Int × List Int × List Int × List Int × List Int × List Int × List Int) : List (Nat × Blk) := [(0, ([.ints .u64 4 x.2.2.2.2.2.2.2.2], 24, .norm))]
def f111.inA : VS → Option (List Int × List Int × List Int × List Int × List Int × List Int × List Int × List Int × List Int)
  | ⟨[(0, .agg [.ints .u64 4 a0_0, .ints .u64 4 a0_1, .ints .u64 4 a0_2]), (1, .fm 113 [.agg [.ints .u64 4 a1_0, .ints .u64 4 a1_1, .ints .u64 4 a1_2, .ints .u64 4 a1_3, .ints .u64 4 a1_4]]), (2, .sl 0 0 1 1)], [(0, ([.ints .u64 4 m0], 24, .norm))], 1⟩ => some (a0_0, a0_1, a0_2, a1_0, a1_1, a1_2, a1_3, a1_4, m0)
  | _ => none
def f111.o0 (y : List Int × Int × List Int) : VS := ⟨[(0, .tup [.agg [.ints .u64 4 y.1], .int .i64 y.2.1])], [(0, ([.ints .u64 4 y.2.2], 24, .norm))], 1⟩
def f111.des : ∀ α : Type, (List Int × Int × List Int) → (VS → Option α) → Option α := (dv1 f111.o0)
def f111.out : List Int × Int × List Int → VS := f111.o0
def f111.inR : VS → Option (List Int × Int × List Int)
  | ⟨[(0, .tup [.agg [.ints .u64 4 y_0], .int .i64 y_1])], [(0, ([.ints .u64 4 z0], 24, .norm))], 1⟩ => some (y_0, y_1, z0)
  | _ => none
noncomputable def f111.E (K : Nat) : Entry := genE 1 f111.inA (f111.F K) f111.des
theorem f111.eq (K : Nat) (x : List Int × List Int × List Int × List Int × List Int × List Int × List Int × List Int × List Int) : f111.F K x = xrun (getA tys) (tabSp (f111.tab K)) Try.f111.ntmps 1 (f111.lp K) 400 f111.c ⟨initL 0 (f111.av x), f111.bl x, 1⟩ (contF (getA tys) 1 Try.f111.results.toList f111.inR) := by kernel_rfl
theorem f111.ok (K : Nat) : EntryOK Try.prog 111 (f111.E K) :=
  gen_ok mix tys_ok (f111.tabOK K) Try.func111 (by kernel_rfl : Try.f111.body = some f111.c) (by kernel_rfl) (f111.loops K) (av := f111.av) (bl := f111.bl) (out := f111.out) (fuel := 400)
    (by intro s x h; unfold f111.inA at h; split at h <;> simp at h; subst h; rfl) (fun _ => Nat.le_of_ble_eq_true rfl)
    (by intro s y h; unfold f111.inR at h; split at h <;> simp at h <;> subst h <;> rfl) (fun _ _ _ => rfl) (f111.eq K)
end Go.Proofs

namespace Go.Proofs
open Go.VM
noncomputable def f111v1.c : Code := bodyOf Try.f111
def f111v1.s0t (K : Nat) (rec : List Int × List Int × List Int × List Int × List Int × Int × Int × List Int × List Int × List Int × List Int × List Int → Option ((List Int × List Int × List Int × List Int × List Int × Int × List Int × List Int) ⊕ (List Int × List Int × List Int × List Int × List Int × List Int × List Int))) (t1_0 : List Int) (t1_1 : List Int) (t1_2 : List Int) (t1_3 : List Int) (t1_4 : List Int) (t11 : Int) (t12 : Int) (b0 : List Int) (b1_0 : List Int) (b1_1 : List Int) (b1_2 : List Int) (b2 : List Int) : Option ((List Int × List Int × List Int × List Int × List Int × Int × List Int × List Int) ⊕ (List Int × List Int × List Int × List Int × List Int × List Int × List Int)) :=
  bif (decide (t12 < t11)) then
    bif decide (0 ≤ t12 ∧ t12 < 2) then
      (f127.F K (b1_0, b1_1, b1_2, (List.take 4 (List.drop ((Int.toNat t12) * 4) b0)))).bind fun y4 =>
      bif !y4 then
        some (.inl (t1_0, t1_1, t1_2, t1_3, t1_4, 1, b0, [0, 0, 0, 0]))
      else
        rec (t1_0, t1_1, t1_2, t1_3, t1_4, t11, (IntKind.wrap .i64 (t12 + 1)), b0, b1_0, b1_1, b1_2, b2)
    else
      none
  else
    some (.inr (t1_0, t1_1, t1_2, t1_3, t1_4, b0, b2))
def f111v1.s0 (K : Nat) (rec : List Int × List Int × List Int × List Int × List Int × Int × Int × List Int × List Int × List Int × List Int × List Int → Option ((List Int × List Int × List Int × List Int × List Int × Int × List Int × List Int) ⊕ (List Int × List Int × List Int × List Int × List Int × List Int × List Int))) (x : List Int × List Int × List Int × List Int × List Int × Int × Int × List Int × List Int × List Int × List Int × List Int) : Option ((List Int × List Int × List Int × List Int × List Int × Int × List Int × List Int) ⊕ (List Int × List Int × List Int × List Int × List Int × List Int × List Int)) := f111v1.s0t K rec x.1 x.2.1 x.2.2.1 x.2.2.2.1 x.2.2.2.2.1 x.2.2.2.2.2.1 x.2.2.2.2.2.2.1 x.2.2.2.2.2.2.2.1 x.2.2.2.2.2.2.2.2.1 x.2.2.2.2.2.2.2.2.2.1 x.2.2.2.2.2.2.2.2.2.2.1 x.2.2.2.2.2.2.2.2.2.2.2
noncomputable def f111v1.s0.b : Code := (findLoop 0 f111v1.c).getD .skip
def f111v1.s0.h : Hint := { lv := [1, 3, 6, 10, 11, 12] }
def f111v1.s0.ho : Hint := { lv := [1, 6, 7] }
def f111v1.s0.shp (x : List Int × List Int × List Int × List Int × List Int × Int × Int × List Int × List Int × List Int × List Int × List Int) : VS := ⟨[(1, .fm 112 [.agg [.ints .u64 4 x.1, .ints .u64 4 x.2.1, .ints .u64 4 x.2.2.1, .ints .u64 4 x.2.2.2.1, .ints .u64 4 x.2.2.2.2.1]]), (3, .ptr 1 0), (6, .ptr 2 0), (10, .sl 0 0 2 2), (11, .int .i64 x.2.2.2.2.2.1), (12, .int .i64 x.2.2.2.2.2.2.1)], [(0, ([.ints .u64 8 x.2.2.2.2.2.2.2.1], 24, .norm)), (1, ([.ints .u64 4 x.2.2.2.2.2.2.2.2.1, .ints .u64 4 x.2.2.2.2.2.2.2.2.2.1, .ints .u64 4 x.2.2.2.2.2.2.2.2.2.2.1], 105, .norm)), (2, ([.ints .u64 4 x.2.2.2.2.2.2.2.2.2.2.2], 24, .norm))], 3⟩
def f111v1.s0.inX : VS → Option (List Int × List Int × List Int × List Int × List Int × Int × Int × List Int × List Int × List Int × List Int × List Int)
  | ⟨[(1, .fm 112 [.agg [.ints .u64 4 t1_0, .ints .u64 4 t1_1, .ints .u64 4 t1_2, .ints .u64 4 t1_3, .ints .u64 4 t1_4]]), (3, .ptr 1 0), (6, .ptr 2 0), (10, .sl 0 0 2 2), (11, .int .i64 t11), (12, .int .i64 t12)], [(0, ([.ints .u64 8 b0], 24, .norm)), (1, ([.ints .u64 4 b1_0, .ints .u64 4 b1_1, .ints .u64 4 b1_2], 105, .norm)), (2, ([.ints .u64 4 b2], 24, .norm))], 3⟩ => some (t1_0, t1_1, t1_2, t1_3, t1_4, t11, t12, b0, b1_0, b1_1, b1_2, b2)
  | _ => none
def f111v1.s0.o0 (y : List Int × List Int × List Int × List Int × List Int × Int × List Int × List Int) : VS := ⟨[(1, .fm 112 [.agg [.ints .u64 4 y.1, .ints .u64 4 y.2.1, .ints .u64 4 y.2.2.1, .ints .u64 4 y.2.2.2.1, .ints .u64 4 y.2.2.2.2.1]]), (6, .ptr 1 0), (7, .int .i64 y.2.2.2.2.2.1)], [(0, ([.ints .u64 8 y.2.2.2.2.2.2.1], 24, .norm)), (1, ([.ints .u64 4 y.2.2.2.2.2.2.2], 24, .norm))], 2⟩
def f111v1.s0.o1 (y : List Int × List Int × List Int × List Int × List Int × List Int × List Int) : VS := ⟨[(1, .fm 112 [.agg [.ints .u64 4 y.1, .ints .u64 4 y.2.1, .ints .u64 4 y.2.2.1, .ints .u64 4 y.2.2.2.1, .ints .u64 4 y.2.2.2.2.1]]), (6, .ptr 1 0)], [(0, ([.ints .u64 8 y.2.2.2.2.2.1], 24, .norm)), (1, ([.ints .u64 4 y.2.2.2.2.2.2], 24, .norm))], 2⟩
def f111v1.s0.des : ∀ α : Type, ((List Int × List Int × List Int × List Int × List Int × Int × List Int × List Int) ⊕ (List Int × List Int × List Int × List Int × List Int × List Int × List Int)) → (Ex → VS → Option α) → Option α := (desA (des1 (.ret) f111v1.s0.o0) (des1 (.exit 0) f111v1.s0.o1))
def f111v1.s0.out : (List Int × List Int × List Int × List Int × List Int × Int × List Int × List Int) ⊕ (List Int × List Int × List Int × List Int × List Int × List Int × List Int) → Ex × VS := (alt (fun y => (.ret, f111v1.s0.o0 y)) (fun y => (.exit 0, f111v1.s0.o1 y)))
theorem f111v1.s0.desOK : ∀ α y (k : Ex → VS → Option α), f111v1.s0.des α y k = k (f111v1.s0.out y).1 (f111v1.s0.out y).2 := (desA_ok (fun _ _ _ => rfl) (fun _ _ _ => rfl))
def f111v1.s0.inY : Ex → VS → Option ((List Int × List Int × List Int × List Int × List Int × Int × List Int × List Int) ⊕ (List Int × List Int × List Int × List Int × List Int × List Int × List Int))
  | .ret, ⟨[(1, .fm 112 [.agg [.ints .u64 4 t1_0, .ints .u64 4 t1_1, .ints .u64 4 t1_2, .ints .u64 4 t1_3, .ints .u64 4 t1_4]]), (6, .ptr 1 0), (7, .int .i64 t7)], [(0, ([.ints .u64 8 b0], 24, .norm)), (1, ([.ints .u64 4 b1], 24, .norm))], 2⟩ => some (.inl (t1_0, t1_1, t1_2, t1_3, t1_4, t7, b0, b1))
  | .exit 0, ⟨[(1, .fm 112 [.agg [.ints .u64 4 t1_0, .ints .u64 4 t1_1, .ints .u64 4 t1_2, .ints .u64 4 t1_3, .ints .u64 4 t1_4]]), (6, .ptr 1 0)], [(0, ([.ints .u64 8 b0], 24, .norm)), (1, ([.ints .u64 4 b1], 24, .norm))], 2⟩ => some (.inr (t1_0, t1_1, t1_2, t1_3, t1_4, b0, b1))
  | _, _ => none
def f111v1.lp (K : Nat) : Nat → Option (Hint × Summ) := tabLp [(0, f111v1.s0.h, summOf (iter (f111v1.s0 K) K) f111v1.s0.inX f111v1.s0.des)]
noncomputable def f111v1.tab (K : Nat) : List (Nat × Entry) := [(127, (f127.E K)), (112, (f112.E K))]
theorem f111v1.tabOK (K : Nat) : SpecOK Try.prog (tabSp (f111v1.tab K)) := tab_ok ((tab_cons (f127.ok K) (tab_cons (f112.ok K) tab_nil)))
theorem f111v1.s0.eq (K : Nat) (rec : List Int × List Int × List Int × List Int × List Int × Int × Int × List Int × List Int × List Int × List Int × List Int → Option ((List Int × List Int × List Int × List Int × List Int × Int × List Int × List Int) ⊕ (List Int × List Int × List Int × List Int × List Int × List Int × List Int))) (x : List Int × List Int × List Int × List Int × List Int × Int × Int × List Int × List Int × List Int × List Int × List Int) : f111v1.s0 K rec x = roundL (getA tys) (tabSp (f111v1.tab K)) 26 1 (f111v1.lp K) 400 f111v1.s0.b f111v1.s0.h f111v1.s0.ho f111v1.s0.shp f111v1.s0.inX f111v1.s0.inY rec x := by kernel_rfl
theorem f111v1.s0.lok (K : Nat) : LoopsOK Try.prog 26 1 (f111v1.lp K) f111v1.s0.b := loops_ok (by
  have h : loopsIn (f111v1.lp K) f111v1.s0.b = [] := by kernel_rfl
  rw [h]; simp)
theorem f111v1.s0.ok (K : Nat) : SummOK Try.prog 26 1 (summOf (iter (f111v1.s0 K) K) f111v1.s0.inX f111v1.s0.des) f111v1.s0.b :=
  loop_ok mix tys_ok (f111v1.tabOK K) (h := f111v1.s0.h) (ho := f111v1.s0.ho) (shp := f111v1.s0.shp) (inX := f111v1.s0.inX) (des := f111v1.s0.des) (out := f111v1.s0.out) (inY := f111v1.s0.inY) (fuel := 400)
    (by intro st x h; unfold f111v1.s0.inX at h; split at h <;> simp at h; subst h; rfl)
    (by intro e st y h; unfold f111v1.s0.inY at h; split at h <;> simp at h <;> subst h <;> rfl)
    f111v1.s0.desOK (f111v1.s0.lok K) (f111v1.s0 K) (f111v1.s0.eq K) K
theorem f111v1.loops (K : Nat) : LoopsOK Try.prog 26 1 (f111v1.lp K) f111v1.c := loops_ok (by
  have h : loopsIn (f111v1.lp K) f111v1.c = [(0, f111v1.s0.b)] := by kernel_rfl
  rw [h]
  intro p hp
  simp only [List.mem_cons, List.not_mem_nil, or_false] at hp
  rcases hp with rfl
  · exact ⟨_, rfl, (f111v1.s0.ok K)⟩)
def f111v1.T (K : Nat) (a0_0 : List Int) (a0_1 : List Int) (a0_2 : List Int) (a1_0 : List Int) (a1_1 : List Int) (a1_2 : List Int) (a1_3 : List Int) (a1_4 : List Int) (m0 : List Int) : Option (List Int × Int × List Int) :=
  (iter (f111v1.s0 K) K (a1_0, a1_1, a1_2, a1_3, a1_4, 2, 0, m0, a0_0, a0_1, a0_2, [0, 0, 0, 0])).bind fun y6 =>
  alt (fun y7 =>
    some (y7.2.2.2.2.2.2.2, y7.2.2.2.2.2.1, y7.2.2.2.2.2.2.1)) (fun y8 =>
    (f112.F K (y8.1, y8.2.1, y8.2.2.1, y8.2.2.2.1, y8.2.2.2.2.1)).bind fun y10 =>
    some (y10.1, y10.2, y8.2.2.2.2.2.1)) y6
def f111v1.F (K : Nat) (x : List Int × List Int × List Int × List Int × List Int × List Int × List Int × List Int × List Int) : Option (List Int × Int × List Int) := f111v1.T K x.1 x.2.1 x.2.2.1 x.2.2.2.1 x.2.2.2.2.1 x.2.2.2.2.2.1 x.2.2.2.2.2.2.1 x.2.2.2.2.2.2.2.1 x.2.2.2.2.2.2.2.2
def f111v1.av (x : List Int × List Int × List Int × List Int × List Int × List Int × List Int × List Int × List Int) : List VV := [.agg [.ints .u64 4 x.1, .ints .u64 4 x.2.1, .ints .u64 4 x.2.2.1], .fm 112 [.agg [.ints .u64 4 x.2.2.2.1, .ints .u64 4 x.2.2.2.2.1, .ints .u64 4 x.2.2.2.2.2.1, .ints .u64 4 x.2.2.2.2.2.2.1, .ints .u64 4 x.2.2.2.2.2.2.2.1]], .sl 0 0 2 2]
def f111v1.bl (x : List Int × List Int × List Int × List Int × List Int × List Int × List Int × List Int × List Int) : List (Nat × Blk) := [(0, ([.ints .u64 8 x.2.2.2.2.2.2.2.2], 24, .norm))]
def f111v1.inA : VS → Option (List Int × List Int × List Int × List Int × List Int × List Int × List Int × List Int × List Int)
  | ⟨[(0, .agg [.ints .u64 4 a0_0, .ints .u64 4 a0_1, .ints .u64 4 a0_2]), (1, .fm 112 [.agg [.ints .u64 4 a1_0, .ints .u64 4 a1_1, .ints .u64 4 a1_2, .ints .u64 4 a1_3, .ints .u64 4 a1_4]]), (2, .sl 0 0 2 2)], [(0, ([.ints .u64 8 m0], 24, .norm))], 1⟩ => some (a0_0, a0_1, a0_2, a1_0, a1_1, a1_2, a1_3, a1_4, m0)
  | _ => none
def f111v1.o0 (y : List Int × Int × List Int) : VS := ⟨[(0, .tup [.agg [.ints .u64 4 y.1], .int .i64 y.2.1])], [(0, ([.ints .u64 8 y.2.2], 24, .norm))], 1⟩
def f111v1.des : ∀ α : Type, (List Int × Int × List Int) → (VS → Option α) → Option α := (dv1 f111v1.o0)
def f111v1.out : List Int × Int × List Int → VS := f111v1.o0
def f111v1.inR : VS → Option (List Int × Int × List Int)
  | ⟨[(0, .tup [.agg [.ints .u64 4 y_0], .int .i64 y_1])], [(0, ([.ints .u64 8 z0], 24, .norm))], 1⟩ => some (y_0, y_1, z0)
  | _ => none
noncomputable def f111v1.E (K : Nat) : Entry := genE 1 f111v1.inA (f111v1.F K) f111v1.des
theorem f111v1.eq (K : Nat) (x : List Int × List Int × List Int × List Int × List Int × List Int × List Int × List Int × List Int) : f111v1.F K x = xrun (getA tys) (tabSp (f111v1.tab K)) Try.f111.ntmps 1 (f111v1.lp K) 400 f111v1.c ⟨initL 0 (f111v1.av x), f111v1.bl x, 1⟩ (contF (getA tys) 1 Try.f111.results.toList f111v1.inR) := by kernel_rfl
theorem f111v1.ok (K : Nat) : EntryOK Try.prog 111 (f111v1.E K) :=
  gen_ok mix tys_ok (f111v1.tabOK K) Try.func111 (by kernel_rfl : Try.f111.body = some f111v1.c) (by kernel_rfl) (f111v1.loops K) (av := f111v1.av) (bl := f111v1.bl) (out := f111v1.out) (fuel := 400)
    (by intro s x h; unfold f111v1.inA at h; split at h <;> simp at h; subst h; rfl) (fun _ => Nat.le_of_ble_eq_true rfl)
    (by intro s y h; unfold f111v1.inR at h; split at h <;> simp at h <;> subst h <;> rfl) (fun _ _ _ => rfl) (f111v1.eq K)
end Go.Proofs

namespace Go.Proofs
open Go.VM
end Go.Proofs

namespace Go.Proofs
open Go.VM
noncomputable def f79.c : Code := bodyOf Try.f79
def f79.lp (_ : Nat) : Nat → Option (Hint × Summ) := fun _ => none
noncomputable def f79.tab (K : Nat) : List (Nat × Entry) := [(111, (f111v1.E K))]
theorem f79.tabOK (K : Nat) : SpecOK Try.prog (tabSp (f79.tab K)) := tab_ok ((tab_cons (f111v1.ok K) tab_nil))
theorem f79.loops (K : Nat) : LoopsOK Try.prog 24 0 (f79.lp K) f79.c := loops_ok (by
  have h : loopsIn (f79.lp K) f79.c = [] := by kernel_rfl
  rw [h]; simp)
def f79.T (K : Nat) (a0_0 : List Int) (a0_1 : List Int) (a0_2 : List Int) (a1 : List Int) (a2 : List Int) : Option (List Int × Int) :=
  (f111v1.F K (a0_0, a0_1, a0_2, a0_0, a0_1, a0_2, a1, a2, (spl (spl [] 0 4 a1) 4 4 a2))).bind fun y2 =>
  some (y2.1, y2.2.1)
def f79.F (K : Nat) (x : List Int × List Int × List Int × List Int × List Int) : Option (List Int × Int) := f79.T K x.1 x.2.1 x.2.2.1 x.2.2.2.1 x.2.2.2.2
def f79.av (x : List Int × List Int × List Int × List Int × List Int) : List VV := [.agg [.ints .u64 4 x.1, .ints .u64 4 x.2.1, .ints .u64 4 x.2.2.1], .agg [.ints .u64 4 x.2.2.2.1], .agg [.ints .u64 4 x.2.2.2.2]]
def f79.bl (_x : List Int × List Int × List Int × List Int × List Int) : List (Nat × Blk) := []
def f79.inA : VS → Option (List Int × List Int × List Int × List Int × List Int)
  | ⟨[(0, .agg [.ints .u64 4 a0_0, .ints .u64 4 a0_1, .ints .u64 4 a0_2]), (1, .agg [.ints .u64 4 a1]), (2, .agg [.ints .u64 4 a2])], [], 0⟩ => some (a0_0, a0_1, a0_2, a1, a2)
  | _ => none
def f79.o0 (y : List Int × Int) : VS := ⟨[(0, .tup [.agg [.ints .u64 4 y.1], .int .i64 y.2])], [], 0⟩
def f79.des : ∀ α : Type, (List Int × Int) → (VS → Option α) → Option α := (dv1 f79.o0)
def f79.out : List Int × Int → VS := f79.o0
def f79.inR : VS → Option (List Int × Int)
  | ⟨[(0, .tup [.agg [.ints .u64 4 y_0], .int .i64 y_1])], [], 0⟩ => some (y_0, y_1)
  | _ => none
noncomputable def f79.E (K : Nat) : Entry := genE 0 f79.inA (f79.F K) f79.des
theorem f79.eq (K : Nat) (x : List Int × List Int × List Int × List Int × List Int) : f79.F K x = xrun (getA tys) (tabSp (f79.tab K)) Try.f79.ntmps 0 (f79.lp K) 400 f79.c ⟨initL 0 (f79.av x), f79.bl x, 0⟩ (contF (getA tys) 0 Try.f79.results.toList f79.inR) := by kernel_rfl
theorem f79.ok (K : Nat) : EntryOK Try.prog 79 (f79.E K) :=
  gen_ok mix tys_ok (f79.tabOK K) Try.func79 (by kernel_rfl : Try.f79.body = some f79.c) (by kernel_rfl) (f79.loops K) (av := f79.av) (bl := f79.bl) (out := f79.out) (fuel := 400)
    (by intro s x h; unfold f79.inA at h; split at h <;> simp at h; subst h; rfl) (fun _ => Nat.le_of_ble_eq_true rfl)
    (by intro s y h; unfold f79.inR at h; split at h <;> simp at h <;> subst h <;> rfl) (fun _ _ _ => rfl) (f79.eq K)
end Go.Proofs

namespace Go.Proofs
open Go.VM
noncomputable def f80.c : Code := bodyOf Try.f80
def f80.lp (_ : Nat) : Nat → Option (Hint × Summ) := fun _ => none
noncomputable def f80.tab (K : Nat) : List (Nat × Entry) := [(111, (f111.E K))]
theorem f80.tabOK (K : Nat) : SpecOK Try.prog (tabSp (f80.tab K)) := tab_ok ((tab_cons (f111.ok K) tab_nil))
theorem f80.loops (K : Nat) : LoopsOK Try.prog 23 0 (f80.lp K) f80.c := loops_ok (by
  have h : loopsIn (f80.lp K) f80.c = [] := by kernel_rfl
  rw [h]; simp)
def f80.T (K : Nat) (a0_0 : List Int) (a0_1 : List Int) (a0_2 : List Int) (a1 : List Int) (a2 : List Int) : Option (List Int × Int) :=
  (f111.F K (a0_0, a0_1, a0_2, a0_0, a0_1, a0_2, a1, a2, a1)).bind fun y1 =>
  some (y1.1, y1.2.1)
def f80.F (K : Nat) (x : List Int × List Int × List Int × List Int × List Int) : Option (List Int × Int) := f80.T K x.1 x.2.1 x.2.2.1 x.2.2.2.1 x.2.2.2.2
def f80.av (x : List Int × List Int × List Int × List Int × List Int) : List VV := [.agg [.ints .u64 4 x.1, .ints .u64 4 x.2.1, .ints .u64 4 x.2.2.1], .agg [.ints .u64 4 x.2.2.2.1], .agg [.ints .u64 4 x.2.2.2.2]]
def f80.bl (_x : List Int × List Int × List Int × List Int × List Int) : List (Nat × Blk) := []
def f80.inA : VS → Option (List Int × List Int × List Int × List Int × List Int)
  | ⟨[(0, .agg [.ints .u64 4 a0_0, .ints .u64 4 a0_1, .ints .u64 4 a0_2]), (1, .agg [.ints .u64 4 a1]), (2, .agg [.ints .u64 4 a2])], [], 0⟩ => some (a0_0, a0_1, a0_2, a1, a2)
  | _ => none
def f80.o0 (y : List Int × Int) : VS := ⟨[(0, .tup [.agg [.ints .u64 4 y.1], .int .i64 y.2])], [], 0⟩
def f80.des : ∀ α : Type, (List Int × Int) → (VS → Option α) → Option α := (dv1 f80.o0)
def f80.out : List Int × Int → VS := f80.o0
def f80.inR : VS → Option (List Int × Int)
  | ⟨[(0, .tup [.agg [.ints .u64 4 y_0], .int .i64 y_1])], [], 0⟩ => some (y_0, y_1)
  | _ => none
noncomputable def f80.E (K : Nat) : Entry := genE 0 f80.inA (f80.F K) f80.des
theorem f80.eq (K : Nat) (x : List Int × List Int × List Int × List Int × List Int) : f80.F K x = xrun (getA tys) (tabSp (f80.tab K)) Try.f80.ntmps 0 (f80.lp K) 400 f80.c ⟨initL 0 (f80.av x), f80.bl x, 0⟩ (contF (getA tys) 0 Try.f80.results.toList f80.inR) := by kernel_rfl
theorem f80.ok (K : Nat) : EntryOK Try.prog 80 (f80.E K) :=
  gen_ok mix tys_ok (f80.tabOK K) Try.func80 (by kernel_rfl : Try.f80.body = some f80.c) (by kernel_rfl) (f80.loops K) (av := f80.av) (bl := f80.bl) (out := f80.out) (fuel := 400)
    (by intro s x h; unfold f80.inA at h; split at h <;> simp at h; subst h; rfl) (fun _ => Nat.le_of_ble_eq_true rfl)
    (by intro s y h; unfold f80.inR at h; split at h <;> simp at h <;> subst h <;> rfl) (fun _ _ _ => rfl) (f80.eq K)
end Go.Proofs

namespace Go.Proofs
open Go.VM
end Go.Proofs

namespace Go.Proofs
open Go.VM
noncomputable def f87.c : Code := bodyOf Try.f87
def f87.lp (_ : Nat) : Nat → Option (Hint × Summ) := fun _ => none
noncomputable def f87.tab (K : Nat) : List (Nat × Entry) := [(80, (f80.E K)), (116, (f116.E K))]
theorem f87.tabOK (K : Nat) : SpecOK Try.prog (tabSp (f87.tab K)) := tab_ok ((tab_cons (f80.ok K) (tab_cons (f116.ok K) tab_nil)))
theorem f87.loops (K : Nat) : LoopsOK Try.prog 22 0 (f87.lp K) f87.c := loops_ok (by
  have h : loopsIn (f87.lp K) f87.c = [] := by kernel_rfl
  rw [h]; simp)
def f87.T (K : Nat) (a0_0 : List Int) (a0_1 : List Int) (a0_2 : List Int) (a1 : List Int) : Option (Bool) :=
  (f80.F K (a0_0, a0_1, a0_2, a1, a0_1)).bind fun y1 =>
  bif (y1.2 == 0) then
    (f116.F K ()).bind fun y2 =>
    some (eqL 4 y1.1 y2 && true)
  else
    some false
def f87.F (K : Nat) (x : List Int × List Int × List Int × List Int) : Option (Bool) := f87.T K x.1 x.2.1 x.2.2.1 x.2.2.2
def f87.av (x : List Int × List Int × List Int × List Int) : List VV := [.agg [.ints .u64 4 x.1, .ints .u64 4 x.2.1, .ints .u64 4 x.2.2.1], .agg [.ints .u64 4 x.2.2.2]]
def f87.bl (_x : List Int × List Int × List Int × List Int) : List (Nat × Blk) := []
def f87.inA : VS → Option (List Int × List Int × List Int × List Int)
  | ⟨[(0, .agg [.ints .u64 4 a0_0, .ints .u64 4 a0_1, .ints .u64 4 a0_2]), (1, .agg [.ints .u64 4 a1])], [], 0⟩ => some (a0_0, a0_1, a0_2, a1)
  | _ => none
def f87.o0 (y : Bool) : VS := ⟨[(0, .bool y)], [], 0⟩
def f87.des : ∀ α : Type, Bool → (VS → Option α) → Option α := (dv1 f87.o0)
def f87.out : Bool → VS := f87.o0
def f87.inR : VS → Option (Bool)
  | ⟨[(0, .bool y)], [], 0⟩ => some y
  | _ => none
noncomputable def f87.E (K : Nat) : Entry := genE 0 f87.inA (f87.F K) f87.des
theorem f87.eq (K : Nat) (x : List Int × List Int × List Int × List Int) : f87.F K x = xrun (getA tys) (tabSp (f87.tab K)) Try.f87.ntmps 0 (f87.lp K) 400 f87.c ⟨initL 0 (f87.av x), f87.bl x, 0⟩ (contF (getA tys) 0 Try.f87.results.toList f87.inR) := by kernel_rfl
theorem f87.ok (K : Nat) : EntryOK Try.prog 87 (f87.E K) :=
  gen_ok mix tys_ok (f87.tabOK K) Try.func87 (by kernel_rfl : Try.f87.body = some f87.c) (by kernel_rfl) (f87.loops K) (av := f87.av) (bl := f87.bl) (out := f87.out) (fuel := 400)
    (by intro s x h; unfold f87.inA at h; split at h <;> simp at h; subst h; rfl) (fun _ => Nat.le_of_ble_eq_true rfl)
    (by intro s y h; unfold f87.inR at h; split at h <;> simp at h <;> subst h <;> rfl) (fun _ _ _ => rfl) (f87.eq K)
end Go.Proofs

namespace Go.Proofs
open Go.VM
noncomputable def f85.c : Code := bodyOf Try.f85
def f85.lp (_ : Nat) : Nat → Option (Hint × Summ) := fun _ => none
noncomputable def f85.tab (K : Nat) : List (Nat × Entry) := [(116, (f116.E K)), (44, (f44.E K)), (87, (f87.E K))]
theorem f85.tabOK (K : Nat) : SpecOK Try.prog (tabSp (f85.tab K)) := tab_ok ((tab_cons (f116.ok K) (tab_cons (f44.ok K) (tab_cons (f87.ok K) tab_nil))))
theorem f85.loops (K : Nat) : LoopsOK Try.prog 20 0 (f85.lp K) f85.c := loops_ok (by
  have h : loopsIn (f85.lp K) f85.c = [] := by kernel_rfl
  rw [h]; simp)
def f85.T (K : Nat) (a0_0 : List Int) (a0_1 : List Int) (a0_2 : List Int) : Option (Bool) :=
  (f116.F K ()).bind fun y1 =>
  (f44.F K (a0_1, y1)).bind fun y2 =>
  bif (decide (y2 > 0)) then
    (f116.F K ()).bind fun y4 =>
    bif (!(eqL 4 a0_2 y4 && true)) then
      (f87.F K (a0_0, a0_1, a0_2, a0_2)).bind fun y6 =>
      some y6
    else
      some false
  else
    some false
def f85.F (K : Nat) (x : List Int × List Int × List Int) : Option (Bool) := f85.T K x.1 x.2.1 x.2.2
def f85.av (x : List Int × List Int × List Int) : List VV := [.agg [.ints .u64 4 x.1, .ints .u64 4 x.2.1, .ints .u64 4 x.2.2]]
def f85.bl (_x : List Int × List Int × List Int) : List (Nat × Blk) := []
def f85.inA : VS → Option (List Int × List Int × List Int)
  | ⟨[(0, .agg [.ints .u64 4 a0_0, .ints .u64 4 a0_1, .ints .u64 4 a0_2])], [], 0⟩ => some (a0_0, a0_1, a0_2)
  | _ => none
def f85.o0 (y : Bool) : VS := ⟨[(0, .bool y)], [], 0⟩
def f85.des : ∀ α : Type, Bool → (VS → Option α) → Option α := (dv1 f85.o0)
def f85.out : Bool → VS := f85.o0
def f85.inR : VS → Option (Bool)
  | ⟨[(0, .bool y)], [], 0⟩ => some y
  | _ => none
noncomputable def f85.E (K : Nat) : Entry := genE 0 f85.inA (f85.F K) f85.des
theorem f85.eq (K : Nat) (x : List Int × List Int × List Int) : f85.F K x = xrun (getA tys) (tabSp (f85.tab K)) Try.f85.ntmps 0 (f85.lp K) 400 f85.c ⟨initL 0 (f85.av x), f85.bl x, 0⟩ (contF (getA tys) 0 Try.f85.results.toList f85.inR) := by kernel_rfl
theorem f85.ok (K : Nat) : EntryOK Try.prog 85 (f85.E K) :=
  gen_ok mix tys_ok (f85.tabOK K) Try.func85 (by kernel_rfl : Try.f85.body = some f85.c) (by kernel_rfl) (f85.loops K) (av := f85.av) (bl := f85.bl) (out := f85.out) (fuel := 400)
    (by intro s x h; unfold f85.inA at h; split at h <;> simp at h; subst h; rfl) (fun _ => Nat.le_of_ble_eq_true rfl)
    (by intro s y h; unfold f85.inR at h; split at h <;> simp at h <;> subst h <;> rfl) (fun _ _ _ => rfl) (f85.eq K)
end Go.Proofs

namespace Go.Proofs
open Go.VM
noncomputable def f110.c : Code := bodyOf Try.f110
def f110.lp (_ : Nat) : Nat → Option (Hint × Summ) := fun _ => none
noncomputable def f110.tab (_K : Nat) : List (Nat × Entry) := []
theorem f110.tabOK (K : Nat) : SpecOK Try.prog (tabSp (f110.tab K)) := tab_ok ( tab_nil)
theorem f110.loops (K : Nat) : LoopsOK Try.prog 4 0 (f110.lp K) f110.c := loops_ok (by
  have h : loopsIn (f110.lp K) f110.c = [] := by kernel_rfl
  rw [h]; simp)
def f110.T (_K : Nat) (a0 : List Int) : Option (List Int) :=
  some a0
def f110.F (K : Nat) (x : List Int) : Option (List Int) := f110.T K x
def f110.av (x : List Int) : List VV := [.agg [.ints .u64 4 x]]
def f110.bl (_x : List Int) : List (Nat × Blk) := []
def f110.inA : VS → Option (List Int)
  | ⟨[(0, .agg [.ints .u64 4 a0])], [], 0⟩ => some a0
  | _ => none
def f110.o0 (y : List Int) : VS := ⟨[(0, .fn 126 [.ptr 0 0])], [(0, ([.ints .u64 4 y], 24, .norm))], 1⟩
def f110.des : ∀ α : Type, (List Int) → (VS → Option α) → Option α := (dv1 f110.o0)
def f110.out : List Int → VS := f110.o0
def f110.inR : VS → Option (List Int)
  | ⟨[(0, .fn 126 [.ptr 0 0])], [(0, ([.ints .u64 4 z0], 24, .norm))], 1⟩ => some z0
  | _ => none
noncomputable def f110.E (K : Nat) : Entry := genE 0 f110.inA (f110.F K) f110.des
theorem f110.eq (K : Nat) (x : List Int) : f110.F K x = xrun (getA tys) (tabSp (f110.tab K)) Try.f110.ntmps 0 (f110.lp K) 400 f110.c ⟨initL 0 (f110.av x), f110.bl x, 0⟩ (contF (getA tys) 0 Try.f110.results.toList f110.inR) := by kernel_rfl
theorem f110.ok (K : Nat) : EntryOK Try.prog 110 (f110.E K) :=
  gen_ok mix tys_ok (f110.tabOK K) Try.func110 (by kernel_rfl : Try.f110.body = some f110.c) (by kernel_rfl) (f110.loops K) (av := f110.av) (bl := f110.bl) (out := f110.out) (fuel := 400)
    (by intro s x h; unfold f110.inA at h; split at h <;> simp at h; subst h; rfl) (fun _ => Nat.le_of_ble_eq_true rfl)
    (by intro s y h; unfold f110.inR at h; split at h <;> simp at h <;> subst h <;> rfl) (fun _ _ _ => rfl) (f110.eq K)
end Go.Proofs

namespace Go.Proofs
open Go.VM
noncomputable def f126.c : Code := bodyOf Try.f126
def f126.s0t (K : Nat) (rec : Int × Int × List Int × List Int → Option ((Bool × List Int × List Int) ⊕ (List Int × List Int))) (t7 : Int) (t8 : Int) (b0 : List Int) (b1 : List Int) : Option ((Bool × List Int × List Int) ⊕ (List Int × List Int)) :=
  bif (decide (t8 < t7)) then
    bif decide (0 ≤ t8 ∧ t8 < 1) then
      (f44.F K ((List.take 4 (List.drop ((Int.toNat t8) * 4) b0)), b1)).bind fun y4 =>
      bif (decide (y4 ≥ 0)) then
        some (.inl (false, b0, b1))
      else
        rec (t7, (IntKind.wrap .i64 (t8 + 1)), b0, b1)
    else
      none
  else
    some (.inr (b0, b1))
def f126.s0 (K : Nat) (rec : Int × Int × List Int × List Int → Option ((Bool × List Int × List Int) ⊕ (List Int × List Int))) (x : Int × Int × List Int × List Int) : Option ((Bool × List Int × List Int) ⊕ (List Int × List Int)) := f126.s0t K rec x.1 x.2.1 x.2.2.1 x.2.2.2
noncomputable def f126.s0.b : Code := (findLoop 0 f126.c).getD .skip
def f126.s0.h : Hint := { lv := [1, 6, 7, 8] }
def f126.s0.ho : Hint := { lv := [3] }
def f126.s0.shp (x : Int × Int × List Int × List Int) : VS := ⟨[(1, .ptr 1 0), (6, .sl 0 0 1 1), (7, .int .i64 x.1), (8, .int .i64 x.2.1)], [(0, ([.ints .u64 4 x.2.2.1], 24, .norm)), (1, ([.ints .u64 4 x.2.2.2], 24, .norm))], 2⟩
def f126.s0.inX : VS → Option (Int × Int × List Int × List Int)
  | ⟨[(1, .ptr 1 0), (6, .sl 0 0 1 1), (7, .int .i64 t7), (8, .int .i64 t8)], [(0, ([.ints .u64 4 b0], 24, .norm)), (1, ([.ints .u64 4 b1], 24, .norm))], 2⟩ => some (t7, t8, b0, b1)
  | _ => none
def f126.s0.o0 (y : Bool × List Int × List Int) : VS := ⟨[(3, .bool y.1)], [(0, ([.ints .u64 4 y.2.1], 24, .norm)), (1, ([.ints .u64 4 y.2.2], 24, .norm))], 2⟩
def f126.s0.o1 (y : List Int × List Int) : VS := ⟨[], [(0, ([.ints .u64 4 y.1], 24, .norm)), (1, ([.ints .u64 4 y.2], 24, .norm))], 2⟩
def f126.s0.des : ∀ α : Type, ((Bool × List Int × List Int) ⊕ (List Int × List Int)) → (Ex → VS → Option α) → Option α := (desA (des1 (.ret) f126.s0.o0) (des1 (.exit 0) f126.s0.o1))
def f126.s0.out : (Bool × List Int × List Int) ⊕ (List Int × List Int) → Ex × VS := (alt (fun y => (.ret, f126.s0.o0 y)) (fun y => (.exit 0, f126.s0.o1 y)))
theorem f126.s0.desOK : ∀ α y (k : Ex → VS → Option α), f126.s0.des α y k = k (f126.s0.out y).1 (f126.s0.out y).2 := (desA_ok (fun _ _ _ => rfl) (fun _ _ _ => rfl))
def f126.s0.inY : Ex → VS → Option ((Bool × List Int × List Int) ⊕ (List Int × List Int))
  | .ret, ⟨[(3, .bool t3)], [(0, ([.ints .u64 4 b0], 24, .norm)), (1, ([.ints .u64 4 b1], 24, .norm))], 2⟩ => some (.inl (t3, b0, b1))
  | .exit 0, ⟨[], [(0, ([.ints .u64 4 b0], 24, .norm)), (1, ([.ints .u64 4 b1], 24, .norm))], 2⟩ => some (.inr (b0, b1))
  | _, _ => none
def f126.lp (K : Nat) : Nat → Option (Hint × Summ) := tabLp [(0, f126.s0.h, summOf (iter (f126.s0 K) K) f126.s0.inX f126.s0.des)]
noncomputable def f126.tab (K : Nat) : List (Nat × Entry) := [(44, (f44.E K))]
theorem f126.tabOK (K : Nat) : SpecOK Try.prog (tabSp (f126.tab K)) := tab_ok ((tab_cons (f44.ok K) tab_nil))
theorem f126.s0.eq (K : Nat) (rec : Int × Int × List Int × List Int → Option ((Bool × List Int × List Int) ⊕ (List Int × List Int))) (x : Int × Int × List Int × List Int) : f126.s0 K rec x = roundL (getA tys) (tabSp (f126.tab K)) 17 2 (f126.lp K) 400 f126.s0.b f126.s0.h f126.s0.ho f126.s0.shp f126.s0.inX f126.s0.inY rec x := by kernel_rfl
theorem f126.s0.lok (K : Nat) : LoopsOK Try.prog 17 2 (f126.lp K) f126.s0.b := loops_ok (by
  have h : loopsIn (f126.lp K) f126.s0.b = [] := by kernel_rfl
  rw [h]; simp)
theorem f126.s0.ok (K : Nat) : SummOK Try.prog 17 2 (summOf (iter (f126.s0 K) K) f126.s0.inX f126.s0.des) f126.s0.b :=
  loop_ok mix tys_ok (f126.tabOK K) (h := f126.s0.h) (ho := f126.s0.ho) (shp := f126.s0.shp) (inX := f126.s0.inX) (des := f126.s0.des) (out := f126.s0.out) (inY := f126.s0.inY) (fuel := 400)
    (by intro st x h; unfold f126.s0.inX at h; split at h <;> simp at h; subst h; rfl)
    (by intro e st y h; unfold f126.s0.inY at h; split at h <;> simp at h <;> subst h <;> rfl)
    f126.s0.desOK (f126.s0.lok K) (f126.s0 K) (f126.s0.eq K) K
theorem f126.loops (K : Nat) : LoopsOK Try.prog 17 2 (f126.lp K) f126.c := loops_ok (by
  have h : loopsIn (f126.lp K) f126.c = [(0, f126.s0.b)] := by kernel_rfl
  rw [h]
  intro p hp
  simp only [List.mem_cons, List.not_mem_nil, or_false] at hp
  rcases hp with rfl
  · exact ⟨_, rfl, (f126.s0.ok K)⟩)
def f126.T (K : Nat) (m0 : List Int) (m1 : List Int) : Option (Bool × List Int × List Int) :=
  (iter (f126.s0 K) K (1, 0, m0, m1)).bind fun y7 =>
  alt (fun y8 =>
    some (y8.1, y8.2.1, y8.2.2)) (fun y9 =>
    some (true, y9.1, y9.2)) y7
def f126.F (K : Nat) (x : List Int × List Int) : Option (Bool × List Int × List Int) := f126.T K x.1 x.2
def f126.av (_x : List Int × List Int) : List VV := [.sl 0 0 1 1, .ptr 1 0]
def f126.bl (x : List Int × List Int) : List (Nat × Blk) := [(0, ([.ints .u64 4 x.1], 24, .norm)), (1, ([.ints .u64 4 x.2], 24, .norm))]
def f126.inA : VS → Option (List Int × List Int)
  | ⟨[(0, .sl 0 0 1 1), (1, .ptr 1 0)], [(0, ([.ints .u64 4 m0], 24, .norm)), (1, ([.ints .u64 4 m1], 24, .norm))], 2⟩ => some (m0, m1)
  | _ => none
def f126.o0 (y : Bool × List Int × List Int) : VS := ⟨[(0, .bool y.1)], [(0, ([.ints .u64 4 y.2.1], 24, .norm)), (1, ([.ints .u64 4 y.2.2], 24, .norm))], 2⟩
def f126.des : ∀ α : Type, (Bool × List Int × List Int) → (VS → Option α) → Option α := (dv1 f126.o0)
def f126.out : Bool × List Int × List Int → VS := f126.o0
def f126.inR : VS → Option (Bool × List Int × List Int)
  | ⟨[(0, .bool y)], [(0, ([.ints .u64 4 z0], 24, .norm)), (1, ([.ints .u64 4 z1], 24, .norm))], 2⟩ => some (y, z0, z1)
  | _ => none
noncomputable def f126.E (K : Nat) : Entry := genE 2 f126.inA (f126.F K) f126.des
theorem f126.eq (K : Nat) (x : List Int × List Int) : f126.F K x = xrun (getA tys) (tabSp (f126.tab K)) Try.f126.ntmps 2 (f126.lp K) 400 f126.c ⟨initL 0 (f126.av x), f126.bl x, 2⟩ (contF (getA tys) 2 Try.f126.results.toList f126.inR) := by kernel_rfl
theorem f126.ok (K : Nat) : EntryOK Try.prog 126 (f126.E K) :=
  gen_ok mix tys_ok (f126.tabOK K) Try.func126 (by kernel_rfl : Try.f126.body = some f126.c) (by kernel_rfl) (f126.loops K) (av := f126.av) (bl := f126.bl) (out := f126.out) (fuel := 400)
    (by intro s x h; unfold f126.inA at h; split at h <;> simp at h; subst h; rfl) (fun _ => Nat.le_of_ble_eq_true rfl)
    (by intro s y h; unfold f126.inR at h; split at h <;> simp at h <;> subst h <;> rfl) (fun _ _ _ => rfl) (f126.eq K)
end Go.Proofs

namespace Go.Proofs
open Go.VM
noncomputable def f77.c : Code := bodyOf Try.f77
def f77.lp (_ : Nat) : Nat → Option (Hint × Summ) := fun _ => none
noncomputable def f77.tab (K : Nat) : List (Nat × Entry) := [(85, (f85.E K)), (46, (f46.E K)), (110, (f110.E K)), (126, (f126.E K)), (80, (f80.E K))]
theorem f77.tabOK (K : Nat) : SpecOK Try.prog (tabSp (f77.tab K)) := tab_ok ((tab_cons (f85.ok K) (tab_cons (f46.ok K) (tab_cons (f110.ok K) (tab_cons (f126.ok K) (tab_cons (f80.ok K) tab_nil))))))
theorem f77.loops (K : Nat) : LoopsOK Try.prog 31 0 (f77.lp K) f77.c := loops_ok (by
  have h : loopsIn (f77.lp K) f77.c = [] := by kernel_rfl
  rw [h]; simp)
def f77.T (K : Nat) (a0_0 : List Int) (a0_1 : List Int) (a0_2 : List Int) (a1 : List Int) : Option (List Int × Int) :=
  (f85.F K (a0_0, a0_1, a0_2)).bind fun y1 =>
  bif !y1 then
    some ([0, 0, 0, 0], 1)
  else
    (f46.F K 0).bind fun y2 =>
    bif (eqL 4 a1 y2 && true) then
      some ([0, 0, 0, 0], 1)
    else
      (f110.F K a0_1).bind fun y4 =>
      (f126.F K (a1, y4)).bind fun y5 =>
      bif !y5.1 then
        some ([0, 0, 0, 0], 1)
      else
        (f80.F K (a0_0, a0_1, a0_2, a0_2, a1)).bind fun y6 =>
        some (y6.1, y6.2)
def f77.F (K : Nat) (x : List Int × List Int × List Int × List Int) : Option (List Int × Int) := f77.T K x.1 x.2.1 x.2.2.1 x.2.2.2
def f77.av (x : List Int × List Int × List Int × List Int) : List VV := [.agg [.ints .u64 4 x.1, .ints .u64 4 x.2.1, .ints .u64 4 x.2.2.1], .agg [.ints .u64 4 x.2.2.2]]
def f77.bl (_x : List Int × List Int × List Int × List Int) : List (Nat × Blk) := []
def f77.inA : VS → Option (List Int × List Int × List Int × List Int)
  | ⟨[(0, .agg [.ints .u64 4 a0_0, .ints .u64 4 a0_1, .ints .u64 4 a0_2]), (1, .agg [.ints .u64 4 a1])], [], 0⟩ => some (a0_0, a0_1, a0_2, a1)
  | _ => none
def f77.o0 (y : List Int × Int) : VS := ⟨[(0, .tup [.agg [.ints .u64 4 y.1], .int .i64 y.2])], [], 0⟩
def f77.des : ∀ α : Type, (List Int × Int) → (VS → Option α) → Option α := (dv1 f77.o0)
def f77.out : List Int × Int → VS := f77.o0
def f77.inR : VS → Option (List Int × Int)
  | ⟨[(0, .tup [.agg [.ints .u64 4 y_0], .int .i64 y_1])], [], 0⟩ => some (y_0, y_1)
  | _ => none
noncomputable def f77.E (K : Nat) : Entry := genE 0 f77.inA (f77.F K) f77.des
theorem f77.eq (K : Nat) (x : List Int × List Int × List Int × List Int) : f77.F K x = xrun (getA tys) (tabSp (f77.tab K)) Try.f77.ntmps 0 (f77.lp K) 400 f77.c ⟨initL 0 (f77.av x), f77.bl x, 0⟩ (contF (getA tys) 0 Try.f77.results.toList f77.inR) := by kernel_rfl
theorem f77.ok (K : Nat) : EntryOK Try.prog 77 (f77.E K) :=
  gen_ok mix tys_ok (f77.tabOK K) Try.func77 (by kernel_rfl : Try.f77.body = some f77.c) (by kernel_rfl) (f77.loops K) (av := f77.av) (bl := f77.bl) (out := f77.out) (fuel := 400)
    (by intro s x h; unfold f77.inA at h; split at h <;> simp at h; subst h; rfl) (fun _ => Nat.le_of_ble_eq_true rfl)
    (by intro s y h; unfold f77.inR at h; split at h <;> simp at h <;> subst h <;> rfl) (fun _ _ _ => rfl) (f77.eq K)
end Go.Proofs

namespace Go.Proofs
open Go.VM
noncomputable def f78.c : Code := bodyOf Try.f78
def f78.lp (_ : Nat) : Nat → Option (Hint × Summ) := fun _ => none
noncomputable def f78.tab (K : Nat) : List (Nat × Entry) := [(77, (f77.E K)), (46, (f46.E K))]
theorem f78.tabOK (K : Nat) : SpecOK Try.prog (tabSp (f78.tab K)) := tab_ok ((tab_cons (f77.ok K) (tab_cons (f46.ok K) tab_nil)))
theorem f78.loops (K : Nat) : LoopsOK Try.prog 45 0 (f78.lp K) f78.c := loops_ok (by
  have h : loopsIn (f78.lp K) f78.c = [] := by kernel_rfl
  rw [h]; simp)
def f78.T (K : Nat)  : Option (Bool) :=
  (f77.F K ([23, 0, 0, 0], [11, 0, 0, 0], [4, 0, 0, 0], [0, 0, 0, 0])).bind fun y1 =>
  (f77.F K ([23, 0, 0, 0], [11, 0, 0, 0], [4, 0, 0, 0], [11, 0, 0, 0])).bind fun y2 =>
  (f77.F K ([23, 0, 0, 0], [11, 0, 0, 0], [4, 0, 0, 0], [1, 0, 0, 0])).bind fun y3 =>
  bif (y1.2 == 1) then
    bif (y2.2 == 1) then
      (f46.F K 4).bind fun y4 =>
      bif (eqL 4 y3.1 y4 && true) then
        some (y3.2 == 0)
      else
        some false
    else
      some false
  else
    some false
def f78.F (K : Nat) (_x : Unit) : Option (Bool) := f78.T K
def f78.av (_x : Unit) : List VV := []
def f78.bl (_x : Unit) : List (Nat × Blk) := []
def f78.inA : VS → Option (Unit)
  | ⟨[], [], 0⟩ => some ()
  | _ => none
def f78.o0 (y : Bool) : VS := ⟨[(0, .bool y)], [], 0⟩
def f78.des : ∀ α : Type, Bool → (VS → Option α) → Option α := (dv1 f78.o0)
def f78.out : Bool → VS := f78.o0
def f78.inR : VS → Option (Bool)
  | ⟨[(0, .bool y)], [], 0⟩ => some y
  | _ => none
noncomputable def f78.E (K : Nat) : Entry := genE 0 f78.inA (f78.F K) f78.des
theorem f78.eq (K : Nat) (x : Unit) : f78.F K x = xrun (getA tys) (tabSp (f78.tab K)) Try.f78.ntmps 0 (f78.lp K) 400 f78.c ⟨initL 0 (f78.av x), f78.bl x, 0⟩ (contF (getA tys) 0 Try.f78.results.toList f78.inR) := by kernel_rfl
theorem f78.ok (K : Nat) : EntryOK Try.prog 78 (f78.E K) :=
  gen_ok mix tys_ok (f78.tabOK K) Try.func78 (by kernel_rfl : Try.f78.body = some f78.c) (by kernel_rfl) (f78.loops K) (av := f78.av) (bl := f78.bl) (out := f78.out) (fuel := 400)
    (by intro s x h; unfold f78.inA at h; split at h <;> simp at h; rfl) (fun _ => Nat.le_of_ble_eq_true rfl)
    (by intro s y h; unfold f78.inR at h; split at h <;> simp at h <;> subst h <;> rfl) (fun _ _ _ => rfl) (f78.eq K)
end Go.Proofs

namespace Go.Proofs
open Go.VM
end Go.Proofs

namespace Go.Proofs
open Go.VM
end Go.Proofs

namespace Go.Proofs
open Go.VM
end Go.Proofs

namespace Go.Proofs
open Go.VM
end Go.Proofs

namespace Go.Proofs
open Go.VM
end Go.Proofs

namespace Go.Proofs
open Go.VM
end Go.Proofs

namespace Go.Proofs
open Go.VM
end Go.Proofs
