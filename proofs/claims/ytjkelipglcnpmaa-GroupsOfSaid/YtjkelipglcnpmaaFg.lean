/- Go functions: for each a Lean function with the same answers, and the proof that the call comes to them, with no condition. -/
import Derived.Test.YtjkelipglcnpmaaFl
import Derived.Test.YtjkelipglcnpmaaFm
namespace Go.Proofs
open Go.VM
/-! ### burrow/groups.one -/
noncomputable def f116.c : Code := bodyOf Try.f116
def f116.lp (_ : Nat) : Nat → Option (Hint × Summ) := fun _ => none
noncomputable def f116.tab (K : Nat) : List (Nat × Entry) := [(46, (f46.E K))]
theorem f116.tabOK (K : Nat) : SpecOK Try.prog (tabSp (f116.tab K)) := tab_ok ((tab_cons (f46.ok K) tab_nil))
theorem f116.loops (K : Nat) : LoopsOK Try.prog 2 0 (f116.lp K) f116.c := loops_ok (by
  have h : loopsIn (f116.lp K) f116.c = [] := by kernel_rfl
  rw [h]; simp)
def f116.T (K : Nat)  : Option (List Int) :=
  (f46.F K 1).bind fun y1 =>
  some y1
def f116.F (K : Nat) (_x : Unit) : Option (List Int) := f116.T K 
def f116.av (_x : Unit) : List VV := []
def f116.bl (_x : Unit) : List (Nat × Blk) := []
def f116.inA : VS → Option (Unit)
  | ⟨[], [], 0⟩ => some ()
  | _ => none
def f116.o0 (y : List Int) : VS := ⟨[(0, .agg [.ints .u64 4 y])], [], 0⟩
def f116.des : ∀ α : Type, (List Int) → (VS → Option α) → Option α := (dv1 f116.o0)
def f116.out : List Int → VS := f116.o0
def f116.inR : VS → Option (List Int)
  | ⟨[(0, .agg [.ints .u64 4 y])], [], 0⟩ => some y
  | _ => none
noncomputable def f116.E (K : Nat) : Entry := genE 0 f116.inA (f116.F K) f116.des
theorem f116.eq (K : Nat) (x : Unit) : f116.F K x = xrun (getA tys) (tabSp (f116.tab K)) Try.f116.ntmps 0 (f116.lp K) 400 f116.c ⟨initL 0 (f116.av x), f116.bl x, 0⟩ (contF (getA tys) 0 Try.f116.results.toList f116.inR) := by kernel_rfl
theorem f116.ok (K : Nat) : EntryOK Try.prog 116 (f116.E K) :=
  gen_ok mix tys_ok (f116.tabOK K) Try.func116 (by kernel_rfl : Try.f116.body = some f116.c) (by kernel_rfl) (f116.loops K) (av := f116.av) (bl := f116.bl) (out := f116.out) (fuel := 400)
    (by intro s x h; unfold f116.inA at h; split at h <;> simp at h; rfl) (fun _ => Nat.le_of_ble_eq_true rfl)
    (by intro s y h; unfold f116.inR at h; split at h <;> simp at h <;> subst h <;> rfl) (fun _ _ _ => rfl) (f116.eq K)
end Go.Proofs

namespace Go.Proofs
open Go.VM
/-! ### (burrow/groups.ring).may -/
noncomputable def f127.c : Code := bodyOf Try.f127
def f127.lp (_ : Nat) : Nat → Option (Hint × Summ) := fun _ => none
noncomputable def f127.tab (K : Nat) : List (Nat × Entry) := [(116, (f116.E K)), (44, (f44.E K)), (46, (f46.E K))]
theorem f127.tabOK (K : Nat) : SpecOK Try.prog (tabSp (f127.tab K)) := tab_ok ((tab_cons (f116.ok K) (tab_cons (f44.ok K) (tab_cons (f46.ok K) tab_nil))))
theorem f127.loops (K : Nat) : LoopsOK Try.prog 24 0 (f127.lp K) f127.c := loops_ok (by
  have h : loopsIn (f127.lp K) f127.c = [] := by kernel_rfl
  rw [h]; simp)
def f127.T (K : Nat) (a0_0 : List Int) (_a0_1 : List Int) (_a0_2 : List Int) (a1 : List Int) : Option (Bool) :=
  (f116.F K ()).bind fun y1 =>
  (f44.F K (a0_0, y1)).bind fun y2 =>
  bif (decide (y2 > 0)) then
    (f46.F K 0).bind fun y4 =>
    bif (!(eqL 4 a1 y4 && true)) then
      (f44.F K (a1, a0_0)).bind fun y6 =>
      some (decide (y6 < 0))
    else
      some false
  else
    some false
def f127.F (K : Nat) (x : List Int × List Int × List Int × List Int) : Option (Bool) := f127.T K x.1 x.2.1 x.2.2.1 x.2.2.2
def f127.av (x : List Int × List Int × List Int × List Int) : List VV := [.agg [.ints .u64 4 x.1, .ints .u64 4 x.2.1, .ints .u64 4 x.2.2.1], .agg [.ints .u64 4 x.2.2.2]]
def f127.bl (_x : List Int × List Int × List Int × List Int) : List (Nat × Blk) := []
def f127.inA : VS → Option (List Int × List Int × List Int × List Int)
  | ⟨[(0, .agg [.ints .u64 4 a0_0, .ints .u64 4 a0_1, .ints .u64 4 a0_2]), (1, .agg [.ints .u64 4 a1])], [], 0⟩ => some (a0_0, a0_1, a0_2, a1)
  | _ => none
def f127.o0 (y : Bool) : VS := ⟨[(0, .bool y)], [], 0⟩
def f127.des : ∀ α : Type, Bool → (VS → Option α) → Option α := (dv1 f127.o0)
def f127.out : Bool → VS := f127.o0
def f127.inR : VS → Option (Bool)
  | ⟨[(0, .bool y)], [], 0⟩ => some y
  | _ => none
noncomputable def f127.E (K : Nat) : Entry := genE 0 f127.inA (f127.F K) f127.des
theorem f127.eq (K : Nat) (x : List Int × List Int × List Int × List Int) : f127.F K x = xrun (getA tys) (tabSp (f127.tab K)) Try.f127.ntmps 0 (f127.lp K) 400 f127.c ⟨initL 0 (f127.av x), f127.bl x, 0⟩ (contF (getA tys) 0 Try.f127.results.toList f127.inR) := by kernel_rfl
theorem f127.ok (K : Nat) : EntryOK Try.prog 127 (f127.E K) :=
  gen_ok mix tys_ok (f127.tabOK K) Try.func127 (by kernel_rfl : Try.f127.body = some f127.c) (by kernel_rfl) (f127.loops K) (av := f127.av) (bl := f127.bl) (out := f127.out) (fuel := 400)
    (by intro s x h; unfold f127.inA at h; split at h <;> simp at h; subst h; rfl) (fun _ => Nat.le_of_ble_eq_true rfl)
    (by intro s y h; unfold f127.inR at h; split at h <;> simp at h <;> subst h <;> rfl) (fun _ _ _ => rfl) (f127.eq K)
end Go.Proofs

namespace Go.Proofs
open Go.VM
/-! ### (burrow/groups.pair).product -/
noncomputable def f112.c : Code := bodyOf Try.f112
def f112.lp (_ : Nat) : Nat → Option (Hint × Summ) := fun _ => none
noncomputable def f112.tab (K : Nat) : List (Nat × Entry) := [(63, (f63.E K))]
theorem f112.tabOK (K : Nat) : SpecOK Try.prog (tabSp (f112.tab K)) := tab_ok ((tab_cons (f63.ok K) tab_nil))
theorem f112.loops (K : Nat) : LoopsOK Try.prog 15 0 (f112.lp K) f112.c := loops_ok (by
  have h : loopsIn (f112.lp K) f112.c = [] := by kernel_rfl
  rw [h]; simp)
def f112.T (K : Nat) (a0_0 : List Int) (_a0_1 : List Int) (_a0_2 : List Int) (a0_3 : List Int) (a0_4 : List Int) : Option (List Int × Int) :=
  (f63.F K (a0_3, a0_4, a0_0)).bind fun y1 =>
  some (y1.1, y1.2)
def f112.F (K : Nat) (x : List Int × List Int × List Int × List Int × List Int) : Option (List Int × Int) := f112.T K x.1 x.2.1 x.2.2.1 x.2.2.2.1 x.2.2.2.2
def f112.av (x : List Int × List Int × List Int × List Int × List Int) : List VV := [.agg [.ints .u64 4 x.1, .ints .u64 4 x.2.1, .ints .u64 4 x.2.2.1, .ints .u64 4 x.2.2.2.1, .ints .u64 4 x.2.2.2.2]]
def f112.bl (_x : List Int × List Int × List Int × List Int × List Int) : List (Nat × Blk) := []
def f112.inA : VS → Option (List Int × List Int × List Int × List Int × List Int)
  | ⟨[(0, .agg [.ints .u64 4 a0_0, .ints .u64 4 a0_1, .ints .u64 4 a0_2, .ints .u64 4 a0_3, .ints .u64 4 a0_4])], [], 0⟩ => some (a0_0, a0_1, a0_2, a0_3, a0_4)
  | _ => none
def f112.o0 (y : List Int × Int) : VS := ⟨[(0, .tup [.agg [.ints .u64 4 y.1], .int .i64 y.2])], [], 0⟩
def f112.des : ∀ α : Type, (List Int × Int) → (VS → Option α) → Option α := (dv1 f112.o0)
def f112.out : List Int × Int → VS := f112.o0
def f112.inR : VS → Option (List Int × Int)
  | ⟨[(0, .tup [.agg [.ints .u64 4 y_0], .int .i64 y_1])], [], 0⟩ => some (y_0, y_1)
  | _ => none
noncomputable def f112.E (K : Nat) : Entry := genE 0 f112.inA (f112.F K) f112.des
theorem f112.eq (K : Nat) (x : List Int × List Int × List Int × List Int × List Int) : f112.F K x = xrun (getA tys) (tabSp (f112.tab K)) Try.f112.ntmps 0 (f112.lp K) 400 f112.c ⟨initL 0 (f112.av x), f112.bl x, 0⟩ (contF (getA tys) 0 Try.f112.results.toList f112.inR) := by kernel_rfl
theorem f112.ok (K : Nat) : EntryOK Try.prog 112 (f112.E K) :=
  gen_ok mix tys_ok (f112.tabOK K) Try.func112 (by kernel_rfl : Try.f112.body = some f112.c) (by kernel_rfl) (f112.loops K) (av := f112.av) (bl := f112.bl) (out := f112.out) (fuel := 400)
    (by intro s x h; unfold f112.inA at h; split at h <;> simp at h; subst h; rfl) (fun _ => Nat.le_of_ble_eq_true rfl)
    (by intro s y h; unfold f112.inR at h; split at h <;> simp at h <;> subst h <;> rfl) (fun _ _ _ => rfl) (f112.eq K)
end Go.Proofs

namespace Go.Proofs
open Go.VM
/-! ### (burrow/groups.pair).power -/
noncomputable def f113.c : Code := bodyOf Try.f113
def f113.lp (_ : Nat) : Nat → Option (Hint × Summ) := fun _ => none
noncomputable def f113.tab (K : Nat) : List (Nat × Entry) := [(64, (f64.E K))]
theorem f113.tabOK (K : Nat) : SpecOK Try.prog (tabSp (f113.tab K)) := tab_ok ((tab_cons (f64.ok K) tab_nil))
theorem f113.loops (K : Nat) : LoopsOK Try.prog 15 0 (f113.lp K) f113.c := loops_ok (by
  have h : loopsIn (f113.lp K) f113.c = [] := by kernel_rfl
  rw [h]; simp)
def f113.T (K : Nat) (a0_0 : List Int) (_a0_1 : List Int) (_a0_2 : List Int) (a0_3 : List Int) (a0_4 : List Int) : Option (List Int × Int) :=
  (f64.F K (a0_3, a0_4, a0_0)).bind fun y1 =>
  some (y1.1, y1.2)
def f113.F (K : Nat) (x : List Int × List Int × List Int × List Int × List Int) : Option (List Int × Int) := f113.T K x.1 x.2.1 x.2.2.1 x.2.2.2.1 x.2.2.2.2
def f113.av (x : List Int × List Int × List Int × List Int × List Int) : List VV := [.agg [.ints .u64 4 x.1, .ints .u64 4 x.2.1, .ints .u64 4 x.2.2.1, .ints .u64 4 x.2.2.2.1, .ints .u64 4 x.2.2.2.2]]
def f113.bl (_x : List Int × List Int × List Int × List Int × List Int) : List (Nat × Blk) := []
def f113.inA : VS → Option (List Int × List Int × List Int × List Int × List Int)
  | ⟨[(0, .agg [.ints .u64 4 a0_0, .ints .u64 4 a0_1, .ints .u64 4 a0_2, .ints .u64 4 a0_3, .ints .u64 4 a0_4])], [], 0⟩ => some (a0_0, a0_1, a0_2, a0_3, a0_4)
  | _ => none
def f113.o0 (y : List Int × Int) : VS := ⟨[(0, .tup [.agg [.ints .u64 4 y.1], .int .i64 y.2])], [], 0⟩
def f113.des : ∀ α : Type, (List Int × Int) → (VS → Option α) → Option α := (dv1 f113.o0)
def f113.out : List Int × Int → VS := f113.o0
def f113.inR : VS → Option (List Int × Int)
  | ⟨[(0, .tup [.agg [.ints .u64 4 y_0], .int .i64 y_1])], [], 0⟩ => some (y_0, y_1)
  | _ => none
noncomputable def f113.E (K : Nat) : Entry := genE 0 f113.inA (f113.F K) f113.des
theorem f113.eq (K : Nat) (x : List Int × List Int × List Int × List Int × List Int) : f113.F K x = xrun (getA tys) (tabSp (f113.tab K)) Try.f113.ntmps 0 (f113.lp K) 400 f113.c ⟨initL 0 (f113.av x), f113.bl x, 0⟩ (contF (getA tys) 0 Try.f113.results.toList f113.inR) := by kernel_rfl
theorem f113.ok (K : Nat) : EntryOK Try.prog 113 (f113.E K) :=
  gen_ok mix tys_ok (f113.tabOK K) Try.func113 (by kernel_rfl : Try.f113.body = some f113.c) (by kernel_rfl) (f113.loops K) (av := f113.av) (bl := f113.bl) (out := f113.out) (fuel := 400)
    (by intro s x h; unfold f113.inA at h; split at h <;> simp at h; subst h; rfl) (fun _ => Nat.le_of_ble_eq_true rfl)
    (by intro s y h; unfold f113.inR at h; split at h <;> simp at h <;> subst h <;> rfl) (fun _ _ _ => rfl) (f113.eq K)
end Go.Proofs

namespace Go.Proofs
open Go.VM
/-! ### (burrow/groups.pair).inverse -/
noncomputable def f115.c : Code := bodyOf Try.f115
def f115.lp (_ : Nat) : Nat → Option (Hint × Summ) := fun _ => none
noncomputable def f115.tab (K : Nat) : List (Nat × Entry) := [(65, (f65.E K))]
theorem f115.tabOK (K : Nat) : SpecOK Try.prog (tabSp (f115.tab K)) := tab_ok ((tab_cons (f65.ok K) tab_nil))
theorem f115.loops (K : Nat) : LoopsOK Try.prog 13 0 (f115.lp K) f115.c := loops_ok (by
  have h : loopsIn (f115.lp K) f115.c = [] := by kernel_rfl
  rw [h]; simp)
def f115.T (K : Nat) (a0_0 : List Int) (_a0_1 : List Int) (_a0_2 : List Int) (a0_3 : List Int) (_a0_4 : List Int) : Option (List Int × Int) :=
  (f65.F K (a0_3, a0_0)).bind fun y1 =>
  some (y1.1, y1.2)
def f115.F (K : Nat) (x : List Int × List Int × List Int × List Int × List Int) : Option (List Int × Int) := f115.T K x.1 x.2.1 x.2.2.1 x.2.2.2.1 x.2.2.2.2
def f115.av (x : List Int × List Int × List Int × List Int × List Int) : List VV := [.agg [.ints .u64 4 x.1, .ints .u64 4 x.2.1, .ints .u64 4 x.2.2.1, .ints .u64 4 x.2.2.2.1, .ints .u64 4 x.2.2.2.2]]
def f115.bl (_x : List Int × List Int × List Int × List Int × List Int) : List (Nat × Blk) := []
def f115.inA : VS → Option (List Int × List Int × List Int × List Int × List Int)
  | ⟨[(0, .agg [.ints .u64 4 a0_0, .ints .u64 4 a0_1, .ints .u64 4 a0_2, .ints .u64 4 a0_3, .ints .u64 4 a0_4])], [], 0⟩ => some (a0_0, a0_1, a0_2, a0_3, a0_4)
  | _ => none
def f115.o0 (y : List Int × Int) : VS := ⟨[(0, .tup [.agg [.ints .u64 4 y.1], .int .i64 y.2])], [], 0⟩
def f115.des : ∀ α : Type, (List Int × Int) → (VS → Option α) → Option α := (dv1 f115.o0)
def f115.out : List Int × Int → VS := f115.o0
def f115.inR : VS → Option (List Int × Int)
  | ⟨[(0, .tup [.agg [.ints .u64 4 y_0], .int .i64 y_1])], [], 0⟩ => some (y_0, y_1)
  | _ => none
noncomputable def f115.E (K : Nat) : Entry := genE 0 f115.inA (f115.F K) f115.des
theorem f115.eq (K : Nat) (x : List Int × List Int × List Int × List Int × List Int) : f115.F K x = xrun (getA tys) (tabSp (f115.tab K)) Try.f115.ntmps 0 (f115.lp K) 400 f115.c ⟨initL 0 (f115.av x), f115.bl x, 0⟩ (contF (getA tys) 0 Try.f115.results.toList f115.inR) := by kernel_rfl
theorem f115.ok (K : Nat) : EntryOK Try.prog 115 (f115.E K) :=
  gen_ok mix tys_ok (f115.tabOK K) Try.func115 (by kernel_rfl : Try.f115.body = some f115.c) (by kernel_rfl) (f115.loops K) (av := f115.av) (bl := f115.bl) (out := f115.out) (fuel := 400)
    (by intro s x h; unfold f115.inA at h; split at h <;> simp at h; subst h; rfl) (fun _ => Nat.le_of_ble_eq_true rfl)
    (by intro s y h; unfold f115.inR at h; split at h <;> simp at h <;> subst h <;> rfl) (fun _ _ _ => rfl) (f115.eq K)
end Go.Proofs

namespace Go.Proofs
open Go.VM
/-! ### (burrow/groups.ring).all -/
noncomputable def f111.c : Code := bodyOf Try.f111
def f111.s0t (K : Nat) (rec : List Int × List Int × List Int × List Int × List Int × Int × Int × List Int × List Int × List Int × List Int × List Int → Option ((List Int × List Int × List Int × List Int × List Int × Int × List Int × List Int) ⊕ (List Int × List Int × List Int × List Int × List Int × List Int × List Int))) (t1_0 : List Int) (t1_1 : List Int) (t1_2 : List Int) (t1_3 : List Int) (t1_4 : List Int) (t11 : Int) (t12 : Int) (b0 : List Int) (b1_0 : List Int) (b1_1 : List Int) (b1_2 : List Int) (b2 : List Int) : Option ((List Int × List Int × List Int × List Int × List Int × Int × List Int × List Int) ⊕ (List Int × List Int × List Int × List Int × List Int × List Int × List Int)) :=
  bif (decide (t12 < t11)) then
    bif decide (0 ≤ t12 ∧ t12 < 1) then
      (f127.F K (b1_0, b1_1, b1_2, (List.take 4 (List.drop ((Int.toNat t12) * 4) b0)))).bind fun y4 =>
      bif !y4 then
        some (.inl (t1_0, t1_1, t1_2, t1_3, t1_4, 1, b0, [0, 0, 0, 0]))
      else
        rec (t1_0, t1_1, t1_2, t1_3, t1_4, t11, (IntKind.wrap .i64 (t12 + 1)), b0, b1_0, b1_1, b1_2, b2)
    else
      none
  else
    some (.inr (t1_0, t1_1, t1_2, t1_3, t1_4, b0, b2))
def f111.s0 (K : Nat) (rec : List Int × List Int × List Int × List Int × List Int × Int × Int × List Int × List Int × List Int × List Int × List Int → Option ((List Int × List Int × List Int × List Int × List Int × Int × List Int × List Int) ⊕ (List Int × List Int × List Int × List Int × List Int × List Int × List Int))) (x : List Int × List Int × List Int × List Int × List Int × Int × Int × List Int × List Int × List Int × List Int × List Int) : Option ((List Int × List Int × List Int × List Int × List Int × Int × List Int × List Int) ⊕ (List Int × List Int × List Int × List Int × List Int × List Int × List Int)) := f111.s0t K rec x.1 x.2.1 x.2.2.1 x.2.2.2.1 x.2.2.2.2.1 x.2.2.2.2.2.1 x.2.2.2.2.2.2.1 x.2.2.2.2.2.2.2.1 x.2.2.2.2.2.2.2.2.1 x.2.2.2.2.2.2.2.2.2.1 x.2.2.2.2.2.2.2.2.2.2.1 x.2.2.2.2.2.2.2.2.2.2.2
noncomputable def f111.s0.b : Code := (findLoop 0 f111.c).getD .skip
def f111.s0.h : Hint := { lv := [1, 3, 6, 10, 11, 12] }
def f111.s0.ho : Hint := { lv := [1, 6, 7] }
def f111.s0.shp (x : List Int × List Int × List Int × List Int × List Int × Int × Int × List Int × List Int × List Int × List Int × List Int) : VS := ⟨[(1, .fm 113 [.agg [.ints .u64 4 x.1, .ints .u64 4 x.2.1, .ints .u64 4 x.2.2.1, .ints .u64 4 x.2.2.2.1, .ints .u64 4 x.2.2.2.2.1]]), (3, .ptr 1 0), (6, .ptr 2 0), (10, .sl 0 0 1 1), (11, .int .i64 x.2.2.2.2.2.1), (12, .int .i64 x.2.2.2.2.2.2.1)], [(0, ([.ints .u64 4 x.2.2.2.2.2.2.2.1], 24, .norm)), (1, ([.ints .u64 4 x.2.2.2.2.2.2.2.2.1, .ints .u64 4 x.2.2.2.2.2.2.2.2.2.1, .ints .u64 4 x.2.2.2.2.2.2.2.2.2.2.1], 105, .norm)), (2, ([.ints .u64 4 x.2.2.2.2.2.2.2.2.2.2.2], 24, .norm))], 3⟩
def f111.s0.inX : VS → Option (List Int × List Int × List Int × List Int × List Int × Int × Int × List Int × List Int × List Int × List Int × List Int)
  | ⟨[(1, .fm 113 [.agg [.ints .u64 4 t1_0, .ints .u64 4 t1_1, .ints .u64 4 t1_2, .ints .u64 4 t1_3, .ints .u64 4 t1_4]]), (3, .ptr 1 0), (6, .ptr 2 0), (10, .sl 0 0 1 1), (11, .int .i64 t11), (12, .int .i64 t12)], [(0, ([.ints .u64 4 b0], 24, .norm)), (1, ([.ints .u64 4 b1_0, .ints .u64 4 b1_1, .ints .u64 4 b1_2], 105, .norm)), (2, ([.ints .u64 4 b2], 24, .norm))], 3⟩ => some (t1_0, t1_1, t1_2, t1_3, t1_4, t11, t12, b0, b1_0, b1_1, b1_2, b2)
  | _ => none
def f111.s0.o0 (y : List Int × List Int × List Int × List Int × List Int × Int × List Int × List Int) : VS := ⟨[(1, .fm 113 [.agg [.ints .u64 4 y.1, .ints .u64 4 y.2.1, .ints .u64 4 y.2.2.1, .ints .u64 4 y.2.2.2.1, .ints .u64 4 y.2.2.2.2.1]]), (6, .ptr 1 0), (7, .int .i64 y.2.2.2.2.2.1)], [(0, ([.ints .u64 4 y.2.2.2.2.2.2.1], 24, .norm)), (1, ([.ints .u64 4 y.2.2.2.2.2.2.2], 24, .norm))], 2⟩
def f111.s0.o1 (y : List Int × List Int × List Int × List Int × List Int × List Int × List Int) : VS := ⟨[(1, .fm 113 [.agg [.ints .u64 4 y.1, .ints .u64 4 y.2.1, .ints .u64 4 y.2.2.1, .ints .u64 4 y.2.2.2.1, .ints .u64 4 y.2.2.2.2.1]]), (6, .ptr 1 0)], [(0, ([.ints .u64 4 y.2.2.2.2.2.1], 24, .norm)), (1, ([.ints .u64 4 y.2.2.2.2.2.2], 24, .norm))], 2⟩
def f111.s0.des : ∀ α : Type, ((List Int × List Int × List Int × List Int × List Int × Int × List Int × List Int) ⊕ (List Int × List Int × List Int × List Int × List Int × List Int × List Int)) → (Ex → VS → Option α) → Option α := (desA (des1 (.ret) f111.s0.o0) (des1 (.exit 0) f111.s0.o1))
def f111.s0.out : (List Int × List Int × List Int × List Int × List Int × Int × List Int × List Int) ⊕ (List Int × List Int × List Int × List Int × List Int × List Int × List Int) → Ex × VS := (alt (fun y => (.ret, f111.s0.o0 y)) (fun y => (.exit 0, f111.s0.o1 y)))
theorem f111.s0.desOK : ∀ α y (k : Ex → VS → Option α), f111.s0.des α y k = k (f111.s0.out y).1 (f111.s0.out y).2 := (desA_ok (fun _ _ _ => rfl) (fun _ _ _ => rfl))
def f111.s0.inY : Ex → VS → Option ((List Int × List Int × List Int × List Int × List Int × Int × List Int × List Int) ⊕ (List Int × List Int × List Int × List Int × List Int × List Int × List Int))
  | .ret, ⟨[(1, .fm 113 [.agg [.ints .u64 4 t1_0, .ints .u64 4 t1_1, .ints .u64 4 t1_2, .ints .u64 4 t1_3, .ints .u64 4 t1_4]]), (6, .ptr 1 0), (7, .int .i64 t7)], [(0, ([.ints .u64 4 b0], 24, .norm)), (1, ([.ints .u64 4 b1], 24, .norm))], 2⟩ => some (.inl (t1_0, t1_1, t1_2, t1_3, t1_4, t7, b0, b1))
  | .exit 0, ⟨[(1, .fm 113 [.agg [.ints .u64 4 t1_0, .ints .u64 4 t1_1, .ints .u64 4 t1_2, .ints .u64 4 t1_3, .ints .u64 4 t1_4]]), (6, .ptr 1 0)], [(0, ([.ints .u64 4 b0], 24, .norm)), (1, ([.ints .u64 4 b1], 24, .norm))], 2⟩ => some (.inr (t1_0, t1_1, t1_2, t1_3, t1_4, b0, b1))
  | _, _ => none
def f111.lp (K : Nat) : Nat → Option (Hint × Summ) := tabLp [(0, f111.s0.h, summOf (iter (f111.s0 K) K) f111.s0.inX f111.s0.des)]
noncomputable def f111.tab (K : Nat) : List (Nat × Entry) := [(127, (f127.E K)), (113, (f113.E K))]
theorem f111.tabOK (K : Nat) : SpecOK Try.prog (tabSp (f111.tab K)) := tab_ok ((tab_cons (f127.ok K) (tab_cons (f113.ok K) tab_nil)))
theorem f111.s0.eq (K : Nat) (rec : List Int × List Int × List Int × List Int × List Int × Int × Int × List Int × List Int × List Int × List Int × List Int → Option ((List Int × List Int × List Int × List Int × List Int × Int × List Int × List Int) ⊕ (List Int × List Int × List Int × List Int × List Int × List Int × List Int))) (x : List Int × List Int × List Int × List Int × List Int × Int × Int × List Int × List Int × List Int × List Int × List Int) : f111.s0 K rec x = roundL (getA tys) (tabSp (f111.tab K)) 26 1 (f111.lp K) 400 f111.s0.b f111.s0.h f111.s0.ho f111.s0.shp f111.s0.inX f111.s0.inY rec x := by kernel_rfl
theorem f111.s0.lok (K : Nat) : LoopsOK Try.prog 26 1 (f111.lp K) f111.s0.b := loops_ok (by
  have h : loopsIn (f111.lp K) f111.s0.b = [] := by kernel_rfl
  rw [h]; simp)
theorem f111.s0.ok (K : Nat) : SummOK Try.prog 26 1 (summOf (iter (f111.s0 K) K) f111.s0.inX f111.s0.des) f111.s0.b :=
  loop_ok mix tys_ok (f111.tabOK K) (h := f111.s0.h) (ho := f111.s0.ho) (shp := f111.s0.shp) (inX := f111.s0.inX) (des := f111.s0.des) (out := f111.s0.out) (inY := f111.s0.inY) (fuel := 400)
    (by intro st x h; unfold f111.s0.inX at h; split at h <;> simp at h; subst h; rfl)
    (by intro e st y h; unfold f111.s0.inY at h; split at h <;> simp at h <;> subst h <;> rfl)
    f111.s0.desOK (f111.s0.lok K) (f111.s0 K) (f111.s0.eq K) K
theorem f111.loops (K : Nat) : LoopsOK Try.prog 26 1 (f111.lp K) f111.c := loops_ok (by
  have h : loopsIn (f111.lp K) f111.c = [(0, f111.s0.b)] := by kernel_rfl
  rw [h]
  intro p hp
  simp only [List.mem_cons, List.not_mem_nil, or_false] at hp
  rcases hp with rfl
  · exact ⟨_, rfl, (f111.s0.ok K)⟩)
def f111.T (K : Nat) (a0_0 : List Int) (a0_1 : List Int) (a0_2 : List Int) (a1_0 : List Int) (a1_1 : List Int) (a1_2 : List Int) (a1_3 : List Int) (a1_4 : List Int) (m0 : List Int) : Option (List Int × Int × List Int) :=
  (iter (f111.s0 K) K (a1_0, a1_1, a1_2, a1_3, a1_4, 1, 0, m0, a0_0, a0_1, a0_2, [0, 0, 0, 0])).bind fun y6 =>
  alt (fun y7 =>
    some (y7.2.2.2.2.2.2.2, y7.2.2.2.2.2.1, y7.2.2.2.2.2.2.1)) (fun y8 =>
    (f113.F K (y8.1, y8.2.1, y8.2.2.1, y8.2.2.2.1, y8.2.2.2.2.1)).bind fun y10 =>
    some (y10.1, y10.2, y8.2.2.2.2.2.1)) y6
def f111.F (K : Nat) (x : List Int × List Int × List Int × List Int × List Int × List Int × List Int × List Int × List Int) : Option (List Int × Int × List Int) := f111.T K x.1 x.2.1 x.2.2.1 x.2.2.2.1 x.2.2.2.2.1 x.2.2.2.2.2.1 x.2.2.2.2.2.2.1 x.2.2.2.2.2.2.2.1 x.2.2.2.2.2.2.2.2
def f111.av (x : List Int × List Int × List Int × List Int × List Int × List Int × List Int × List Int × List Int) : List VV := [.agg [.ints .u64 4 x.1, .ints .u64 4 x.2.1, .ints .u64 4 x.2.2.1], .fm 113 [.agg [.ints .u64 4 x.2.2.2.1, .ints .u64 4 x.2.2.2.2.1, .ints .u64 4 x.2.2.2.2.2.1, .ints .u64 4 x.2.2.2.2.2.2.1, .ints .u64 4 x.2.2.2.2.2.2.2.1]], .sl 0 0 1 1]
def f111.bl (x : List Int × List Int × List Int × List Int × List Int × List Int × List Int × List Int × List Int) : List (Nat × Blk) := [(0, ([.ints .u64 4 x.2.2.2.2.2.2.2.2], 24, .norm))]
def f111.inA : VS → Option (List Int × List Int × List Int × List Int × List Int × List Int × List Int × List Int × List Int)
  | ⟨[(0, .agg [.ints .u64 4 a0_0, .ints .u64 4 a0_1, .ints .u64 4 a0_2]), (1, .fm 113 [.agg [.ints .u64 4 a1_0, .ints .u64 4 a1_1, .ints .u64 4 a1_2, .ints .u64 4 a1_3, .ints .u64 4 a1_4]]), (2, .sl 0 0 1 1)], [(0, ([.ints .u64 4 m0], 24, .norm))], 1⟩ => some (a0_0, a0_1, a0_2, a1_0, a1_1, a1_2, a1_3, a1_4, m0)
  | _ => none
def f111.o0 (y : List Int × Int × List Int) : VS := ⟨[(0, .tup [.agg [.ints .u64 4 y.1], .int .i64 y.2.1])], [(0, ([.ints .u64 4 y.2.2], 24, .norm))], 1⟩
def f111.des : ∀ α : Type, (List Int × Int × List Int) → (VS → Option α) → Option α := (dv1 f111.o0)
def f111.out : List Int × Int × List Int → VS := f111.o0
def f111.inR : VS → Option (List Int × Int × List Int)
  | ⟨[(0, .tup [.agg [.ints .u64 4 y_0], .int .i64 y_1])], [(0, ([.ints .u64 4 z0], 24, .norm))], 1⟩ => some (y_0, y_1, z0)
  | _ => none
noncomputable def f111.E (K : Nat) : Entry := genE 1 f111.inA (f111.F K) f111.des
theorem f111.eq (K : Nat) (x : List Int × List Int × List Int × List Int × List Int × List Int × List Int × List Int × List Int) : f111.F K x = xrun (getA tys) (tabSp (f111.tab K)) Try.f111.ntmps 1 (f111.lp K) 400 f111.c ⟨initL 0 (f111.av x), f111.bl x, 1⟩ (contF (getA tys) 1 Try.f111.results.toList f111.inR) := by kernel_rfl
theorem f111.ok (K : Nat) : EntryOK Try.prog 111 (f111.E K) :=
  gen_ok mix tys_ok (f111.tabOK K) Try.func111 (by kernel_rfl : Try.f111.body = some f111.c) (by kernel_rfl) (f111.loops K) (av := f111.av) (bl := f111.bl) (out := f111.out) (fuel := 400)
    (by intro s x h; unfold f111.inA at h; split at h <;> simp at h; subst h; rfl) (fun _ => Nat.le_of_ble_eq_true rfl)
    (by intro s y h; unfold f111.inR at h; split at h <;> simp at h <;> subst h <;> rfl) (fun _ _ _ => rfl) (f111.eq K)
end Go.Proofs

namespace Go.Proofs
open Go.VM
/-! ### (burrow/groups.ring).all -/
noncomputable def f111v1.c : Code := bodyOf Try.f111
def f111v1.s0t (K : Nat) (rec : List Int × List Int × List Int × List Int × List Int × Int × Int × List Int × List Int × List Int × List Int × List Int → Option ((List Int × List Int × List Int × List Int × List Int × Int × List Int × List Int) ⊕ (List Int × List Int × List Int × List Int × List Int × List Int × List Int))) (t1_0 : List Int) (t1_1 : List Int) (t1_2 : List Int) (t1_3 : List Int) (t1_4 : List Int) (t11 : Int) (t12 : Int) (b0 : List Int) (b1_0 : List Int) (b1_1 : List Int) (b1_2 : List Int) (b2 : List Int) : Option ((List Int × List Int × List Int × List Int × List Int × Int × List Int × List Int) ⊕ (List Int × List Int × List Int × List Int × List Int × List Int × List Int)) :=
  bif (decide (t12 < t11)) then
    bif decide (0 ≤ t12 ∧ t12 < 2) then
      (f127.F K (b1_0, b1_1, b1_2, (List.take 4 (List.drop ((Int.toNat t12) * 4) b0)))).bind fun y4 =>
      bif !y4 then
        some (.inl (t1_0, t1_1, t1_2, t1_3, t1_4, 1, b0, [0, 0, 0, 0]))
      else
        rec (t1_0, t1_1, t1_2, t1_3, t1_4, t11, (IntKind.wrap .i64 (t12 + 1)), b0, b1_0, b1_1, b1_2, b2)
    else
      none
  else
    some (.inr (t1_0, t1_1, t1_2, t1_3, t1_4, b0, b2))
def f111v1.s0 (K : Nat) (rec : List Int × List Int × List Int × List Int × List Int × Int × Int × List Int × List Int × List Int × List Int × List Int → Option ((List Int × List Int × List Int × List Int × List Int × Int × List Int × List Int) ⊕ (List Int × List Int × List Int × List Int × List Int × List Int × List Int))) (x : List Int × List Int × List Int × List Int × List Int × Int × Int × List Int × List Int × List Int × List Int × List Int) : Option ((List Int × List Int × List Int × List Int × List Int × Int × List Int × List Int) ⊕ (List Int × List Int × List Int × List Int × List Int × List Int × List Int)) := f111v1.s0t K rec x.1 x.2.1 x.2.2.1 x.2.2.2.1 x.2.2.2.2.1 x.2.2.2.2.2.1 x.2.2.2.2.2.2.1 x.2.2.2.2.2.2.2.1 x.2.2.2.2.2.2.2.2.1 x.2.2.2.2.2.2.2.2.2.1 x.2.2.2.2.2.2.2.2.2.2.1 x.2.2.2.2.2.2.2.2.2.2.2
noncomputable def f111v1.s0.b : Code := (findLoop 0 f111v1.c).getD .skip
def f111v1.s0.h : Hint := { lv := [1, 3, 6, 10, 11, 12] }
def f111v1.s0.ho : Hint := { lv := [1, 6, 7] }
def f111v1.s0.shp (x : List Int × List Int × List Int × List Int × List Int × Int × Int × List Int × List Int × List Int × List Int × List Int) : VS := ⟨[(1, .fm 112 [.agg [.ints .u64 4 x.1, .ints .u64 4 x.2.1, .ints .u64 4 x.2.2.1, .ints .u64 4 x.2.2.2.1, .ints .u64 4 x.2.2.2.2.1]]), (3, .ptr 1 0), (6, .ptr 2 0), (10, .sl 0 0 2 2), (11, .int .i64 x.2.2.2.2.2.1), (12, .int .i64 x.2.2.2.2.2.2.1)], [(0, ([.ints .u64 8 x.2.2.2.2.2.2.2.1], 24, .norm)), (1, ([.ints .u64 4 x.2.2.2.2.2.2.2.2.1, .ints .u64 4 x.2.2.2.2.2.2.2.2.2.1, .ints .u64 4 x.2.2.2.2.2.2.2.2.2.2.1], 105, .norm)), (2, ([.ints .u64 4 x.2.2.2.2.2.2.2.2.2.2.2], 24, .norm))], 3⟩
def f111v1.s0.inX : VS → Option (List Int × List Int × List Int × List Int × List Int × Int × Int × List Int × List Int × List Int × List Int × List Int)
  | ⟨[(1, .fm 112 [.agg [.ints .u64 4 t1_0, .ints .u64 4 t1_1, .ints .u64 4 t1_2, .ints .u64 4 t1_3, .ints .u64 4 t1_4]]), (3, .ptr 1 0), (6, .ptr 2 0), (10, .sl 0 0 2 2), (11, .int .i64 t11), (12, .int .i64 t12)], [(0, ([.ints .u64 8 b0], 24, .norm)), (1, ([.ints .u64 4 b1_0, .ints .u64 4 b1_1, .ints .u64 4 b1_2], 105, .norm)), (2, ([.ints .u64 4 b2], 24, .norm))], 3⟩ => some (t1_0, t1_1, t1_2, t1_3, t1_4, t11, t12, b0, b1_0, b1_1, b1_2, b2)
  | _ => none
def f111v1.s0.o0 (y : List Int × List Int × List Int × List Int × List Int × Int × List Int × List Int) : VS := ⟨[(1, .fm 112 [.agg [.ints .u64 4 y.1, .ints .u64 4 y.2.1, .ints .u64 4 y.2.2.1, .ints .u64 4 y.2.2.2.1, .ints .u64 4 y.2.2.2.2.1]]), (6, .ptr 1 0), (7, .int .i64 y.2.2.2.2.2.1)], [(0, ([.ints .u64 8 y.2.2.2.2.2.2.1], 24, .norm)), (1, ([.ints .u64 4 y.2.2.2.2.2.2.2], 24, .norm))], 2⟩
def f111v1.s0.o1 (y : List Int × List Int × List Int × List Int × List Int × List Int × List Int) : VS := ⟨[(1, .fm 112 [.agg [.ints .u64 4 y.1, .ints .u64 4 y.2.1, .ints .u64 4 y.2.2.1, .ints .u64 4 y.2.2.2.1, .ints .u64 4 y.2.2.2.2.1]]), (6, .ptr 1 0)], [(0, ([.ints .u64 8 y.2.2.2.2.2.1], 24, .norm)), (1, ([.ints .u64 4 y.2.2.2.2.2.2], 24, .norm))], 2⟩
def f111v1.s0.des : ∀ α : Type, ((List Int × List Int × List Int × List Int × List Int × Int × List Int × List Int) ⊕ (List Int × List Int × List Int × List Int × List Int × List Int × List Int)) → (Ex → VS → Option α) → Option α := (desA (des1 (.ret) f111v1.s0.o0) (des1 (.exit 0) f111v1.s0.o1))
def f111v1.s0.out : (List Int × List Int × List Int × List Int × List Int × Int × List Int × List Int) ⊕ (List Int × List Int × List Int × List Int × List Int × List Int × List Int) → Ex × VS := (alt (fun y => (.ret, f111v1.s0.o0 y)) (fun y => (.exit 0, f111v1.s0.o1 y)))
theorem f111v1.s0.desOK : ∀ α y (k : Ex → VS → Option α), f111v1.s0.des α y k = k (f111v1.s0.out y).1 (f111v1.s0.out y).2 := (desA_ok (fun _ _ _ => rfl) (fun _ _ _ => rfl))
def f111v1.s0.inY : Ex → VS → Option ((List Int × List Int × List Int × List Int × List Int × Int × List Int × List Int) ⊕ (List Int × List Int × List Int × List Int × List Int × List Int × List Int))
  | .ret, ⟨[(1, .fm 112 [.agg [.ints .u64 4 t1_0, .ints .u64 4 t1_1, .ints .u64 4 t1_2, .ints .u64 4 t1_3, .ints .u64 4 t1_4]]), (6, .ptr 1 0), (7, .int .i64 t7)], [(0, ([.ints .u64 8 b0], 24, .norm)), (1, ([.ints .u64 4 b1], 24, .norm))], 2⟩ => some (.inl (t1_0, t1_1, t1_2, t1_3, t1_4, t7, b0, b1))
  | .exit 0, ⟨[(1, .fm 112 [.agg [.ints .u64 4 t1_0, .ints .u64 4 t1_1, .ints .u64 4 t1_2, .ints .u64 4 t1_3, .ints .u64 4 t1_4]]), (6, .ptr 1 0)], [(0, ([.ints .u64 8 b0], 24, .norm)), (1, ([.ints .u64 4 b1], 24, .norm))], 2⟩ => some (.inr (t1_0, t1_1, t1_2, t1_3, t1_4, b0, b1))
  | _, _ => none
def f111v1.lp (K : Nat) : Nat → Option (Hint × Summ) := tabLp [(0, f111v1.s0.h, summOf (iter (f111v1.s0 K) K) f111v1.s0.inX f111v1.s0.des)]
noncomputable def f111v1.tab (K : Nat) : List (Nat × Entry) := [(127, (f127.E K)), (112, (f112.E K))]
theorem f111v1.tabOK (K : Nat) : SpecOK Try.prog (tabSp (f111v1.tab K)) := tab_ok ((tab_cons (f127.ok K) (tab_cons (f112.ok K) tab_nil)))
theorem f111v1.s0.eq (K : Nat) (rec : List Int × List Int × List Int × List Int × List Int × Int × Int × List Int × List Int × List Int × List Int × List Int → Option ((List Int × List Int × List Int × List Int × List Int × Int × List Int × List Int) ⊕ (List Int × List Int × List Int × List Int × List Int × List Int × List Int))) (x : List Int × List Int × List Int × List Int × List Int × Int × Int × List Int × List Int × List Int × List Int × List Int) : f111v1.s0 K rec x = roundL (getA tys) (tabSp (f111v1.tab K)) 26 1 (f111v1.lp K) 400 f111v1.s0.b f111v1.s0.h f111v1.s0.ho f111v1.s0.shp f111v1.s0.inX f111v1.s0.inY rec x := by kernel_rfl
theorem f111v1.s0.lok (K : Nat) : LoopsOK Try.prog 26 1 (f111v1.lp K) f111v1.s0.b := loops_ok (by
  have h : loopsIn (f111v1.lp K) f111v1.s0.b = [] := by kernel_rfl
  rw [h]; simp)
theorem f111v1.s0.ok (K : Nat) : SummOK Try.prog 26 1 (summOf (iter (f111v1.s0 K) K) f111v1.s0.inX f111v1.s0.des) f111v1.s0.b :=
  loop_ok mix tys_ok (f111v1.tabOK K) (h := f111v1.s0.h) (ho := f111v1.s0.ho) (shp := f111v1.s0.shp) (inX := f111v1.s0.inX) (des := f111v1.s0.des) (out := f111v1.s0.out) (inY := f111v1.s0.inY) (fuel := 400)
    (by intro st x h; unfold f111v1.s0.inX at h; split at h <;> simp at h; subst h; rfl)
    (by intro e st y h; unfold f111v1.s0.inY at h; split at h <;> simp at h <;> subst h <;> rfl)
    f111v1.s0.desOK (f111v1.s0.lok K) (f111v1.s0 K) (f111v1.s0.eq K) K
theorem f111v1.loops (K : Nat) : LoopsOK Try.prog 26 1 (f111v1.lp K) f111v1.c := loops_ok (by
  have h : loopsIn (f111v1.lp K) f111v1.c = [(0, f111v1.s0.b)] := by kernel_rfl
  rw [h]
  intro p hp
  simp only [List.mem_cons, List.not_mem_nil, or_false] at hp
  rcases hp with rfl
  · exact ⟨_, rfl, (f111v1.s0.ok K)⟩)
def f111v1.T (K : Nat) (a0_0 : List Int) (a0_1 : List Int) (a0_2 : List Int) (a1_0 : List Int) (a1_1 : List Int) (a1_2 : List Int) (a1_3 : List Int) (a1_4 : List Int) (m0 : List Int) : Option (List Int × Int × List Int) :=
  (iter (f111v1.s0 K) K (a1_0, a1_1, a1_2, a1_3, a1_4, 2, 0, m0, a0_0, a0_1, a0_2, [0, 0, 0, 0])).bind fun y6 =>
  alt (fun y7 =>
    some (y7.2.2.2.2.2.2.2, y7.2.2.2.2.2.1, y7.2.2.2.2.2.2.1)) (fun y8 =>
    (f112.F K (y8.1, y8.2.1, y8.2.2.1, y8.2.2.2.1, y8.2.2.2.2.1)).bind fun y10 =>
    some (y10.1, y10.2, y8.2.2.2.2.2.1)) y6
def f111v1.F (K : Nat) (x : List Int × List Int × List Int × List Int × List Int × List Int × List Int × List Int × List Int) : Option (List Int × Int × List Int) := f111v1.T K x.1 x.2.1 x.2.2.1 x.2.2.2.1 x.2.2.2.2.1 x.2.2.2.2.2.1 x.2.2.2.2.2.2.1 x.2.2.2.2.2.2.2.1 x.2.2.2.2.2.2.2.2
def f111v1.av (x : List Int × List Int × List Int × List Int × List Int × List Int × List Int × List Int × List Int) : List VV := [.agg [.ints .u64 4 x.1, .ints .u64 4 x.2.1, .ints .u64 4 x.2.2.1], .fm 112 [.agg [.ints .u64 4 x.2.2.2.1, .ints .u64 4 x.2.2.2.2.1, .ints .u64 4 x.2.2.2.2.2.1, .ints .u64 4 x.2.2.2.2.2.2.1, .ints .u64 4 x.2.2.2.2.2.2.2.1]], .sl 0 0 2 2]
def f111v1.bl (x : List Int × List Int × List Int × List Int × List Int × List Int × List Int × List Int × List Int) : List (Nat × Blk) := [(0, ([.ints .u64 8 x.2.2.2.2.2.2.2.2], 24, .norm))]
def f111v1.inA : VS → Option (List Int × List Int × List Int × List Int × List Int × List Int × List Int × List Int × List Int)
  | ⟨[(0, .agg [.ints .u64 4 a0_0, .ints .u64 4 a0_1, .ints .u64 4 a0_2]), (1, .fm 112 [.agg [.ints .u64 4 a1_0, .ints .u64 4 a1_1, .ints .u64 4 a1_2, .ints .u64 4 a1_3, .ints .u64 4 a1_4]]), (2, .sl 0 0 2 2)], [(0, ([.ints .u64 8 m0], 24, .norm))], 1⟩ => some (a0_0, a0_1, a0_2, a1_0, a1_1, a1_2, a1_3, a1_4, m0)
  | _ => none
def f111v1.o0 (y : List Int × Int × List Int) : VS := ⟨[(0, .tup [.agg [.ints .u64 4 y.1], .int .i64 y.2.1])], [(0, ([.ints .u64 8 y.2.2], 24, .norm))], 1⟩
def f111v1.des : ∀ α : Type, (List Int × Int × List Int) → (VS → Option α) → Option α := (dv1 f111v1.o0)
def f111v1.out : List Int × Int × List Int → VS := f111v1.o0
def f111v1.inR : VS → Option (List Int × Int × List Int)
  | ⟨[(0, .tup [.agg [.ints .u64 4 y_0], .int .i64 y_1])], [(0, ([.ints .u64 8 z0], 24, .norm))], 1⟩ => some (y_0, y_1, z0)
  | _ => none
noncomputable def f111v1.E (K : Nat) : Entry := genE 1 f111v1.inA (f111v1.F K) f111v1.des
theorem f111v1.eq (K : Nat) (x : List Int × List Int × List Int × List Int × List Int × List Int × List Int × List Int × List Int) : f111v1.F K x = xrun (getA tys) (tabSp (f111v1.tab K)) Try.f111.ntmps 1 (f111v1.lp K) 400 f111v1.c ⟨initL 0 (f111v1.av x), f111v1.bl x, 1⟩ (contF (getA tys) 1 Try.f111.results.toList f111v1.inR) := by kernel_rfl
theorem f111v1.ok (K : Nat) : EntryOK Try.prog 111 (f111v1.E K) :=
  gen_ok mix tys_ok (f111v1.tabOK K) Try.func111 (by kernel_rfl : Try.f111.body = some f111v1.c) (by kernel_rfl) (f111v1.loops K) (av := f111v1.av) (bl := f111v1.bl) (out := f111v1.out) (fuel := 400)
    (by intro s x h; unfold f111v1.inA at h; split at h <;> simp at h; subst h; rfl) (fun _ => Nat.le_of_ble_eq_true rfl)
    (by intro s y h; unfold f111v1.inR at h; split at h <;> simp at h <;> subst h <;> rfl) (fun _ _ _ => rfl) (f111v1.eq K)
end Go.Proofs

namespace Go.Proofs
open Go.VM
/-! ### (burrow/groups.ring).all -/
noncomputable def f111v2.c : Code := bodyOf Try.f111
def f111v2.s0t (K : Nat) (rec : List Int × List Int × List Int × List Int × List Int × Int × Int × List Int × List Int × List Int × List Int × List Int → Option ((List Int × List Int × List Int × List Int × List Int × Int × List Int × List Int) ⊕ (List Int × List Int × List Int × List Int × List Int × List Int × List Int))) (t1_0 : List Int) (t1_1 : List Int) (t1_2 : List Int) (t1_3 : List Int) (t1_4 : List Int) (t11 : Int) (t12 : Int) (b0 : List Int) (b1_0 : List Int) (b1_1 : List Int) (b1_2 : List Int) (b2 : List Int) : Option ((List Int × List Int × List Int × List Int × List Int × Int × List Int × List Int) ⊕ (List Int × List Int × List Int × List Int × List Int × List Int × List Int)) :=
  bif (decide (t12 < t11)) then
    bif decide (0 ≤ t12 ∧ t12 < 1) then
      (f127.F K (b1_0, b1_1, b1_2, (List.take 4 (List.drop ((Int.toNat t12) * 4) b0)))).bind fun y4 =>
      bif !y4 then
        some (.inl (t1_0, t1_1, t1_2, t1_3, t1_4, 1, b0, [0, 0, 0, 0]))
      else
        rec (t1_0, t1_1, t1_2, t1_3, t1_4, t11, (IntKind.wrap .i64 (t12 + 1)), b0, b1_0, b1_1, b1_2, b2)
    else
      none
  else
    some (.inr (t1_0, t1_1, t1_2, t1_3, t1_4, b0, b2))
def f111v2.s0 (K : Nat) (rec : List Int × List Int × List Int × List Int × List Int × Int × Int × List Int × List Int × List Int × List Int × List Int → Option ((List Int × List Int × List Int × List Int × List Int × Int × List Int × List Int) ⊕ (List Int × List Int × List Int × List Int × List Int × List Int × List Int))) (x : List Int × List Int × List Int × List Int × List Int × Int × Int × List Int × List Int × List Int × List Int × List Int) : Option ((List Int × List Int × List Int × List Int × List Int × Int × List Int × List Int) ⊕ (List Int × List Int × List Int × List Int × List Int × List Int × List Int)) := f111v2.s0t K rec x.1 x.2.1 x.2.2.1 x.2.2.2.1 x.2.2.2.2.1 x.2.2.2.2.2.1 x.2.2.2.2.2.2.1 x.2.2.2.2.2.2.2.1 x.2.2.2.2.2.2.2.2.1 x.2.2.2.2.2.2.2.2.2.1 x.2.2.2.2.2.2.2.2.2.2.1 x.2.2.2.2.2.2.2.2.2.2.2
noncomputable def f111v2.s0.b : Code := (findLoop 0 f111v2.c).getD .skip
def f111v2.s0.h : Hint := { lv := [1, 3, 6, 10, 11, 12] }
def f111v2.s0.ho : Hint := { lv := [1, 6, 7] }
def f111v2.s0.shp (x : List Int × List Int × List Int × List Int × List Int × Int × Int × List Int × List Int × List Int × List Int × List Int) : VS := ⟨[(1, .fm 115 [.agg [.ints .u64 4 x.1, .ints .u64 4 x.2.1, .ints .u64 4 x.2.2.1, .ints .u64 4 x.2.2.2.1, .ints .u64 4 x.2.2.2.2.1]]), (3, .ptr 1 0), (6, .ptr 2 0), (10, .sl 0 0 1 1), (11, .int .i64 x.2.2.2.2.2.1), (12, .int .i64 x.2.2.2.2.2.2.1)], [(0, ([.ints .u64 4 x.2.2.2.2.2.2.2.1], 24, .norm)), (1, ([.ints .u64 4 x.2.2.2.2.2.2.2.2.1, .ints .u64 4 x.2.2.2.2.2.2.2.2.2.1, .ints .u64 4 x.2.2.2.2.2.2.2.2.2.2.1], 105, .norm)), (2, ([.ints .u64 4 x.2.2.2.2.2.2.2.2.2.2.2], 24, .norm))], 3⟩
def f111v2.s0.inX : VS → Option (List Int × List Int × List Int × List Int × List Int × Int × Int × List Int × List Int × List Int × List Int × List Int)
  | ⟨[(1, .fm 115 [.agg [.ints .u64 4 t1_0, .ints .u64 4 t1_1, .ints .u64 4 t1_2, .ints .u64 4 t1_3, .ints .u64 4 t1_4]]), (3, .ptr 1 0), (6, .ptr 2 0), (10, .sl 0 0 1 1), (11, .int .i64 t11), (12, .int .i64 t12)], [(0, ([.ints .u64 4 b0], 24, .norm)), (1, ([.ints .u64 4 b1_0, .ints .u64 4 b1_1, .ints .u64 4 b1_2], 105, .norm)), (2, ([.ints .u64 4 b2], 24, .norm))], 3⟩ => some (t1_0, t1_1, t1_2, t1_3, t1_4, t11, t12, b0, b1_0, b1_1, b1_2, b2)
  | _ => none
def f111v2.s0.o0 (y : List Int × List Int × List Int × List Int × List Int × Int × List Int × List Int) : VS := ⟨[(1, .fm 115 [.agg [.ints .u64 4 y.1, .ints .u64 4 y.2.1, .ints .u64 4 y.2.2.1, .ints .u64 4 y.2.2.2.1, .ints .u64 4 y.2.2.2.2.1]]), (6, .ptr 1 0), (7, .int .i64 y.2.2.2.2.2.1)], [(0, ([.ints .u64 4 y.2.2.2.2.2.2.1], 24, .norm)), (1, ([.ints .u64 4 y.2.2.2.2.2.2.2], 24, .norm))], 2⟩
def f111v2.s0.o1 (y : List Int × List Int × List Int × List Int × List Int × List Int × List Int) : VS := ⟨[(1, .fm 115 [.agg [.ints .u64 4 y.1, .ints .u64 4 y.2.1, .ints .u64 4 y.2.2.1, .ints .u64 4 y.2.2.2.1, .ints .u64 4 y.2.2.2.2.1]]), (6, .ptr 1 0)], [(0, ([.ints .u64 4 y.2.2.2.2.2.1], 24, .norm)), (1, ([.ints .u64 4 y.2.2.2.2.2.2], 24, .norm))], 2⟩
def f111v2.s0.des : ∀ α : Type, ((List Int × List Int × List Int × List Int × List Int × Int × List Int × List Int) ⊕ (List Int × List Int × List Int × List Int × List Int × List Int × List Int)) → (Ex → VS → Option α) → Option α := (desA (des1 (.ret) f111v2.s0.o0) (des1 (.exit 0) f111v2.s0.o1))
def f111v2.s0.out : (List Int × List Int × List Int × List Int × List Int × Int × List Int × List Int) ⊕ (List Int × List Int × List Int × List Int × List Int × List Int × List Int) → Ex × VS := (alt (fun y => (.ret, f111v2.s0.o0 y)) (fun y => (.exit 0, f111v2.s0.o1 y)))
theorem f111v2.s0.desOK : ∀ α y (k : Ex → VS → Option α), f111v2.s0.des α y k = k (f111v2.s0.out y).1 (f111v2.s0.out y).2 := (desA_ok (fun _ _ _ => rfl) (fun _ _ _ => rfl))
def f111v2.s0.inY : Ex → VS → Option ((List Int × List Int × List Int × List Int × List Int × Int × List Int × List Int) ⊕ (List Int × List Int × List Int × List Int × List Int × List Int × List Int))
  | .ret, ⟨[(1, .fm 115 [.agg [.ints .u64 4 t1_0, .ints .u64 4 t1_1, .ints .u64 4 t1_2, .ints .u64 4 t1_3, .ints .u64 4 t1_4]]), (6, .ptr 1 0), (7, .int .i64 t7)], [(0, ([.ints .u64 4 b0], 24, .norm)), (1, ([.ints .u64 4 b1], 24, .norm))], 2⟩ => some (.inl (t1_0, t1_1, t1_2, t1_3, t1_4, t7, b0, b1))
  | .exit 0, ⟨[(1, .fm 115 [.agg [.ints .u64 4 t1_0, .ints .u64 4 t1_1, .ints .u64 4 t1_2, .ints .u64 4 t1_3, .ints .u64 4 t1_4]]), (6, .ptr 1 0)], [(0, ([.ints .u64 4 b0], 24, .norm)), (1, ([.ints .u64 4 b1], 24, .norm))], 2⟩ => some (.inr (t1_0, t1_1, t1_2, t1_3, t1_4, b0, b1))
  | _, _ => none
def f111v2.lp (K : Nat) : Nat → Option (Hint × Summ) := tabLp [(0, f111v2.s0.h, summOf (iter (f111v2.s0 K) K) f111v2.s0.inX f111v2.s0.des)]
noncomputable def f111v2.tab (K : Nat) : List (Nat × Entry) := [(127, (f127.E K)), (115, (f115.E K))]
theorem f111v2.tabOK (K : Nat) : SpecOK Try.prog (tabSp (f111v2.tab K)) := tab_ok ((tab_cons (f127.ok K) (tab_cons (f115.ok K) tab_nil)))
theorem f111v2.s0.eq (K : Nat) (rec : List Int × List Int × List Int × List Int × List Int × Int × Int × List Int × List Int × List Int × List Int × List Int → Option ((List Int × List Int × List Int × List Int × List Int × Int × List Int × List Int) ⊕ (List Int × List Int × List Int × List Int × List Int × List Int × List Int))) (x : List Int × List Int × List Int × List Int × List Int × Int × Int × List Int × List Int × List Int × List Int × List Int) : f111v2.s0 K rec x = roundL (getA tys) (tabSp (f111v2.tab K)) 26 1 (f111v2.lp K) 400 f111v2.s0.b f111v2.s0.h f111v2.s0.ho f111v2.s0.shp f111v2.s0.inX f111v2.s0.inY rec x := by kernel_rfl
theorem f111v2.s0.lok (K : Nat) : LoopsOK Try.prog 26 1 (f111v2.lp K) f111v2.s0.b := loops_ok (by
  have h : loopsIn (f111v2.lp K) f111v2.s0.b = [] := by kernel_rfl
  rw [h]; simp)
theorem f111v2.s0.ok (K : Nat) : SummOK Try.prog 26 1 (summOf (iter (f111v2.s0 K) K) f111v2.s0.inX f111v2.s0.des) f111v2.s0.b :=
  loop_ok mix tys_ok (f111v2.tabOK K) (h := f111v2.s0.h) (ho := f111v2.s0.ho) (shp := f111v2.s0.shp) (inX := f111v2.s0.inX) (des := f111v2.s0.des) (out := f111v2.s0.out) (inY := f111v2.s0.inY) (fuel := 400)
    (by intro st x h; unfold f111v2.s0.inX at h; split at h <;> simp at h; subst h; rfl)
    (by intro e st y h; unfold f111v2.s0.inY at h; split at h <;> simp at h <;> subst h <;> rfl)
    f111v2.s0.desOK (f111v2.s0.lok K) (f111v2.s0 K) (f111v2.s0.eq K) K
theorem f111v2.loops (K : Nat) : LoopsOK Try.prog 26 1 (f111v2.lp K) f111v2.c := loops_ok (by
  have h : loopsIn (f111v2.lp K) f111v2.c = [(0, f111v2.s0.b)] := by kernel_rfl
  rw [h]
  intro p hp
  simp only [List.mem_cons, List.not_mem_nil, or_false] at hp
  rcases hp with rfl
  · exact ⟨_, rfl, (f111v2.s0.ok K)⟩)
def f111v2.T (K : Nat) (a0_0 : List Int) (a0_1 : List Int) (a0_2 : List Int) (a1_0 : List Int) (a1_1 : List Int) (a1_2 : List Int) (a1_3 : List Int) (a1_4 : List Int) (m0 : List Int) : Option (List Int × Int × List Int) :=
  (iter (f111v2.s0 K) K (a1_0, a1_1, a1_2, a1_3, a1_4, 1, 0, m0, a0_0, a0_1, a0_2, [0, 0, 0, 0])).bind fun y6 =>
  alt (fun y7 =>
    some (y7.2.2.2.2.2.2.2, y7.2.2.2.2.2.1, y7.2.2.2.2.2.2.1)) (fun y8 =>
    (f115.F K (y8.1, y8.2.1, y8.2.2.1, y8.2.2.2.1, y8.2.2.2.2.1)).bind fun y10 =>
    some (y10.1, y10.2, y8.2.2.2.2.2.1)) y6
def f111v2.F (K : Nat) (x : List Int × List Int × List Int × List Int × List Int × List Int × List Int × List Int × List Int) : Option (List Int × Int × List Int) := f111v2.T K x.1 x.2.1 x.2.2.1 x.2.2.2.1 x.2.2.2.2.1 x.2.2.2.2.2.1 x.2.2.2.2.2.2.1 x.2.2.2.2.2.2.2.1 x.2.2.2.2.2.2.2.2
def f111v2.av (x : List Int × List Int × List Int × List Int × List Int × List Int × List Int × List Int × List Int) : List VV := [.agg [.ints .u64 4 x.1, .ints .u64 4 x.2.1, .ints .u64 4 x.2.2.1], .fm 115 [.agg [.ints .u64 4 x.2.2.2.1, .ints .u64 4 x.2.2.2.2.1, .ints .u64 4 x.2.2.2.2.2.1, .ints .u64 4 x.2.2.2.2.2.2.1, .ints .u64 4 x.2.2.2.2.2.2.2.1]], .sl 0 0 1 1]
def f111v2.bl (x : List Int × List Int × List Int × List Int × List Int × List Int × List Int × List Int × List Int) : List (Nat × Blk) := [(0, ([.ints .u64 4 x.2.2.2.2.2.2.2.2], 24, .norm))]
def f111v2.inA : VS → Option (List Int × List Int × List Int × List Int × List Int × List Int × List Int × List Int × List Int)
  | ⟨[(0, .agg [.ints .u64 4 a0_0, .ints .u64 4 a0_1, .ints .u64 4 a0_2]), (1, .fm 115 [.agg [.ints .u64 4 a1_0, .ints .u64 4 a1_1, .ints .u64 4 a1_2, .ints .u64 4 a1_3, .ints .u64 4 a1_4]]), (2, .sl 0 0 1 1)], [(0, ([.ints .u64 4 m0], 24, .norm))], 1⟩ => some (a0_0, a0_1, a0_2, a1_0, a1_1, a1_2, a1_3, a1_4, m0)
  | _ => none
def f111v2.o0 (y : List Int × Int × List Int) : VS := ⟨[(0, .tup [.agg [.ints .u64 4 y.1], .int .i64 y.2.1])], [(0, ([.ints .u64 4 y.2.2], 24, .norm))], 1⟩
def f111v2.des : ∀ α : Type, (List Int × Int × List Int) → (VS → Option α) → Option α := (dv1 f111v2.o0)
def f111v2.out : List Int × Int × List Int → VS := f111v2.o0
def f111v2.inR : VS → Option (List Int × Int × List Int)
  | ⟨[(0, .tup [.agg [.ints .u64 4 y_0], .int .i64 y_1])], [(0, ([.ints .u64 4 z0], 24, .norm))], 1⟩ => some (y_0, y_1, z0)
  | _ => none
noncomputable def f111v2.E (K : Nat) : Entry := genE 1 f111v2.inA (f111v2.F K) f111v2.des
theorem f111v2.eq (K : Nat) (x : List Int × List Int × List Int × List Int × List Int × List Int × List Int × List Int × List Int) : f111v2.F K x = xrun (getA tys) (tabSp (f111v2.tab K)) Try.f111.ntmps 1 (f111v2.lp K) 400 f111v2.c ⟨initL 0 (f111v2.av x), f111v2.bl x, 1⟩ (contF (getA tys) 1 Try.f111.results.toList f111v2.inR) := by kernel_rfl
theorem f111v2.ok (K : Nat) : EntryOK Try.prog 111 (f111v2.E K) :=
  gen_ok mix tys_ok (f111v2.tabOK K) Try.func111 (by kernel_rfl : Try.f111.body = some f111v2.c) (by kernel_rfl) (f111v2.loops K) (av := f111v2.av) (bl := f111v2.bl) (out := f111v2.out) (fuel := 400)
    (by intro s x h; unfold f111v2.inA at h; split at h <;> simp at h; subst h; rfl) (fun _ => Nat.le_of_ble_eq_true rfl)
    (by intro s y h; unfold f111v2.inR at h; split at h <;> simp at h <;> subst h <;> rfl) (fun _ _ _ => rfl) (f111v2.eq K)
end Go.Proofs

namespace Go.Proofs
open Go.VM
/-! ### burrow/groups.Mul -/
noncomputable def f79.c : Code := bodyOf Try.f79
def f79.lp (_ : Nat) : Nat → Option (Hint × Summ) := fun _ => none
noncomputable def f79.tab (K : Nat) : List (Nat × Entry) := [(111, (f111v1.E K))]
theorem f79.tabOK (K : Nat) : SpecOK Try.prog (tabSp (f79.tab K)) := tab_ok ((tab_cons (f111v1.ok K) tab_nil))
theorem f79.loops (K : Nat) : LoopsOK Try.prog 24 0 (f79.lp K) f79.c := loops_ok (by
  have h : loopsIn (f79.lp K) f79.c = [] := by kernel_rfl
  rw [h]; simp)
def f79.T (K : Nat) (a0_0 : List Int) (a0_1 : List Int) (a0_2 : List Int) (a1 : List Int) (a2 : List Int) : Option (List Int × Int) :=
  (f111v1.F K (a0_0, a0_1, a0_2, a0_0, a0_1, a0_2, a1, a2, (spl (spl [] 0 4 a1) 4 4 a2))).bind fun y2 =>
  some (y2.1, y2.2.1)
def f79.F (K : Nat) (x : List Int × List Int × List Int × List Int × List Int) : Option (List Int × Int) := f79.T K x.1 x.2.1 x.2.2.1 x.2.2.2.1 x.2.2.2.2
def f79.av (x : List Int × List Int × List Int × List Int × List Int) : List VV := [.agg [.ints .u64 4 x.1, .ints .u64 4 x.2.1, .ints .u64 4 x.2.2.1], .agg [.ints .u64 4 x.2.2.2.1], .agg [.ints .u64 4 x.2.2.2.2]]
def f79.bl (_x : List Int × List Int × List Int × List Int × List Int) : List (Nat × Blk) := []
def f79.inA : VS → Option (List Int × List Int × List Int × List Int × List Int)
  | ⟨[(0, .agg [.ints .u64 4 a0_0, .ints .u64 4 a0_1, .ints .u64 4 a0_2]), (1, .agg [.ints .u64 4 a1]), (2, .agg [.ints .u64 4 a2])], [], 0⟩ => some (a0_0, a0_1, a0_2, a1, a2)
  | _ => none
def f79.o0 (y : List Int × Int) : VS := ⟨[(0, .tup [.agg [.ints .u64 4 y.1], .int .i64 y.2])], [], 0⟩
def f79.des : ∀ α : Type, (List Int × Int) → (VS → Option α) → Option α := (dv1 f79.o0)
def f79.out : List Int × Int → VS := f79.o0
def f79.inR : VS → Option (List Int × Int)
  | ⟨[(0, .tup [.agg [.ints .u64 4 y_0], .int .i64 y_1])], [], 0⟩ => some (y_0, y_1)
  | _ => none
noncomputable def f79.E (K : Nat) : Entry := genE 0 f79.inA (f79.F K) f79.des
theorem f79.eq (K : Nat) (x : List Int × List Int × List Int × List Int × List Int) : f79.F K x = xrun (getA tys) (tabSp (f79.tab K)) Try.f79.ntmps 0 (f79.lp K) 400 f79.c ⟨initL 0 (f79.av x), f79.bl x, 0⟩ (contF (getA tys) 0 Try.f79.results.toList f79.inR) := by kernel_rfl
theorem f79.ok (K : Nat) : EntryOK Try.prog 79 (f79.E K) :=
  gen_ok mix tys_ok (f79.tabOK K) Try.func79 (by kernel_rfl : Try.f79.body = some f79.c) (by kernel_rfl) (f79.loops K) (av := f79.av) (bl := f79.bl) (out := f79.out) (fuel := 400)
    (by intro s x h; unfold f79.inA at h; split at h <;> simp at h; subst h; rfl) (fun _ => Nat.le_of_ble_eq_true rfl)
    (by intro s y h; unfold f79.inR at h; split at h <;> simp at h <;> subst h <;> rfl) (fun _ _ _ => rfl) (f79.eq K)
end Go.Proofs

namespace Go.Proofs
open Go.VM
/-! ### burrow/groups.Exp -/
noncomputable def f80.c : Code := bodyOf Try.f80
def f80.lp (_ : Nat) : Nat → Option (Hint × Summ) := fun _ => none
noncomputable def f80.tab (K : Nat) : List (Nat × Entry) := [(111, (f111.E K))]
theorem f80.tabOK (K : Nat) : SpecOK Try.prog (tabSp (f80.tab K)) := tab_ok ((tab_cons (f111.ok K) tab_nil))
theorem f80.loops (K : Nat) : LoopsOK Try.prog 23 0 (f80.lp K) f80.c := loops_ok (by
  have h : loopsIn (f80.lp K) f80.c = [] := by kernel_rfl
  rw [h]; simp)
def f80.T (K : Nat) (a0_0 : List Int) (a0_1 : List Int) (a0_2 : List Int) (a1 : List Int) (a2 : List Int) : Option (List Int × Int) :=
  (f111.F K (a0_0, a0_1, a0_2, a0_0, a0_1, a0_2, a1, a2, a1)).bind fun y1 =>
  some (y1.1, y1.2.1)
def f80.F (K : Nat) (x : List Int × List Int × List Int × List Int × List Int) : Option (List Int × Int) := f80.T K x.1 x.2.1 x.2.2.1 x.2.2.2.1 x.2.2.2.2
def f80.av (x : List Int × List Int × List Int × List Int × List Int) : List VV := [.agg [.ints .u64 4 x.1, .ints .u64 4 x.2.1, .ints .u64 4 x.2.2.1], .agg [.ints .u64 4 x.2.2.2.1], .agg [.ints .u64 4 x.2.2.2.2]]
def f80.bl (_x : List Int × List Int × List Int × List Int × List Int) : List (Nat × Blk) := []
def f80.inA : VS → Option (List Int × List Int × List Int × List Int × List Int)
  | ⟨[(0, .agg [.ints .u64 4 a0_0, .ints .u64 4 a0_1, .ints .u64 4 a0_2]), (1, .agg [.ints .u64 4 a1]), (2, .agg [.ints .u64 4 a2])], [], 0⟩ => some (a0_0, a0_1, a0_2, a1, a2)
  | _ => none
def f80.o0 (y : List Int × Int) : VS := ⟨[(0, .tup [.agg [.ints .u64 4 y.1], .int .i64 y.2])], [], 0⟩
def f80.des : ∀ α : Type, (List Int × Int) → (VS → Option α) → Option α := (dv1 f80.o0)
def f80.out : List Int × Int → VS := f80.o0
def f80.inR : VS → Option (List Int × Int)
  | ⟨[(0, .tup [.agg [.ints .u64 4 y_0], .int .i64 y_1])], [], 0⟩ => some (y_0, y_1)
  | _ => none
noncomputable def f80.E (K : Nat) : Entry := genE 0 f80.inA (f80.F K) f80.des
theorem f80.eq (K : Nat) (x : List Int × List Int × List Int × List Int × List Int) : f80.F K x = xrun (getA tys) (tabSp (f80.tab K)) Try.f80.ntmps 0 (f80.lp K) 400 f80.c ⟨initL 0 (f80.av x), f80.bl x, 0⟩ (contF (getA tys) 0 Try.f80.results.toList f80.inR) := by kernel_rfl
theorem f80.ok (K : Nat) : EntryOK Try.prog 80 (f80.E K) :=
  gen_ok mix tys_ok (f80.tabOK K) Try.func80 (by kernel_rfl : Try.f80.body = some f80.c) (by kernel_rfl) (f80.loops K) (av := f80.av) (bl := f80.bl) (out := f80.out) (fuel := 400)
    (by intro s x h; unfold f80.inA at h; split at h <;> simp at h; subst h; rfl) (fun _ => Nat.le_of_ble_eq_true rfl)
    (by intro s y h; unfold f80.inR at h; split at h <;> simp at h <;> subst h <;> rfl) (fun _ _ _ => rfl) (f80.eq K)
end Go.Proofs

namespace Go.Proofs
open Go.VM
/-! ### burrow/groups.Inv -/
noncomputable def f82.c : Code := bodyOf Try.f82
def f82.lp (_ : Nat) : Nat → Option (Hint × Summ) := fun _ => none
noncomputable def f82.tab (K : Nat) : List (Nat × Entry) := [(111, (f111v2.E K))]
theorem f82.tabOK (K : Nat) : SpecOK Try.prog (tabSp (f82.tab K)) := tab_ok ((tab_cons (f111v2.ok K) tab_nil))
theorem f82.loops (K : Nat) : LoopsOK Try.prog 21 0 (f82.lp K) f82.c := loops_ok (by
  have h : loopsIn (f82.lp K) f82.c = [] := by kernel_rfl
  rw [h]; simp)
def f82.T (K : Nat) (a0_0 : List Int) (a0_1 : List Int) (a0_2 : List Int) (a1 : List Int) : Option (List Int × Int) :=
  (f111v2.F K (a0_0, a0_1, a0_2, a0_0, a0_1, a0_2, a1, [0, 0, 0, 0], a1)).bind fun y1 =>
  some (y1.1, y1.2.1)
def f82.F (K : Nat) (x : List Int × List Int × List Int × List Int) : Option (List Int × Int) := f82.T K x.1 x.2.1 x.2.2.1 x.2.2.2
def f82.av (x : List Int × List Int × List Int × List Int) : List VV := [.agg [.ints .u64 4 x.1, .ints .u64 4 x.2.1, .ints .u64 4 x.2.2.1], .agg [.ints .u64 4 x.2.2.2]]
def f82.bl (_x : List Int × List Int × List Int × List Int) : List (Nat × Blk) := []
def f82.inA : VS → Option (List Int × List Int × List Int × List Int)
  | ⟨[(0, .agg [.ints .u64 4 a0_0, .ints .u64 4 a0_1, .ints .u64 4 a0_2]), (1, .agg [.ints .u64 4 a1])], [], 0⟩ => some (a0_0, a0_1, a0_2, a1)
  | _ => none
def f82.o0 (y : List Int × Int) : VS := ⟨[(0, .tup [.agg [.ints .u64 4 y.1], .int .i64 y.2])], [], 0⟩
def f82.des : ∀ α : Type, (List Int × Int) → (VS → Option α) → Option α := (dv1 f82.o0)
def f82.out : List Int × Int → VS := f82.o0
def f82.inR : VS → Option (List Int × Int)
  | ⟨[(0, .tup [.agg [.ints .u64 4 y_0], .int .i64 y_1])], [], 0⟩ => some (y_0, y_1)
  | _ => none
noncomputable def f82.E (K : Nat) : Entry := genE 0 f82.inA (f82.F K) f82.des
theorem f82.eq (K : Nat) (x : List Int × List Int × List Int × List Int) : f82.F K x = xrun (getA tys) (tabSp (f82.tab K)) Try.f82.ntmps 0 (f82.lp K) 400 f82.c ⟨initL 0 (f82.av x), f82.bl x, 0⟩ (contF (getA tys) 0 Try.f82.results.toList f82.inR) := by kernel_rfl
theorem f82.ok (K : Nat) : EntryOK Try.prog 82 (f82.E K) :=
  gen_ok mix tys_ok (f82.tabOK K) Try.func82 (by kernel_rfl : Try.f82.body = some f82.c) (by kernel_rfl) (f82.loops K) (av := f82.av) (bl := f82.bl) (out := f82.out) (fuel := 400)
    (by intro s x h; unfold f82.inA at h; split at h <;> simp at h; subst h; rfl) (fun _ => Nat.le_of_ble_eq_true rfl)
    (by intro s y h; unfold f82.inR at h; split at h <;> simp at h <;> subst h <;> rfl) (fun _ _ _ => rfl) (f82.eq K)
end Go.Proofs

namespace Go.Proofs
open Go.VM
/-! ### burrow/groups.In -/
noncomputable def f87.c : Code := bodyOf Try.f87
def f87.lp (_ : Nat) : Nat → Option (Hint × Summ) := fun _ => none
noncomputable def f87.tab (K : Nat) : List (Nat × Entry) := [(80, (f80.E K)), (116, (f116.E K))]
theorem f87.tabOK (K : Nat) : SpecOK Try.prog (tabSp (f87.tab K)) := tab_ok ((tab_cons (f80.ok K) (tab_cons (f116.ok K) tab_nil)))
theorem f87.loops (K : Nat) : LoopsOK Try.prog 22 0 (f87.lp K) f87.c := loops_ok (by
  have h : loopsIn (f87.lp K) f87.c = [] := by kernel_rfl
  rw [h]; simp)
def f87.T (K : Nat) (a0_0 : List Int) (a0_1 : List Int) (a0_2 : List Int) (a1 : List Int) : Option (Bool) :=
  (f80.F K (a0_0, a0_1, a0_2, a1, a0_1)).bind fun y1 =>
  bif (y1.2 == 0) then
    (f116.F K ()).bind fun y2 =>
    some (eqL 4 y1.1 y2 && true)
  else
    some false
def f87.F (K : Nat) (x : List Int × List Int × List Int × List Int) : Option (Bool) := f87.T K x.1 x.2.1 x.2.2.1 x.2.2.2
def f87.av (x : List Int × List Int × List Int × List Int) : List VV := [.agg [.ints .u64 4 x.1, .ints .u64 4 x.2.1, .ints .u64 4 x.2.2.1], .agg [.ints .u64 4 x.2.2.2]]
def f87.bl (_x : List Int × List Int × List Int × List Int) : List (Nat × Blk) := []
def f87.inA : VS → Option (List Int × List Int × List Int × List Int)
  | ⟨[(0, .agg [.ints .u64 4 a0_0, .ints .u64 4 a0_1, .ints .u64 4 a0_2]), (1, .agg [.ints .u64 4 a1])], [], 0⟩ => some (a0_0, a0_1, a0_2, a1)
  | _ => none
def f87.o0 (y : Bool) : VS := ⟨[(0, .bool y)], [], 0⟩
def f87.des : ∀ α : Type, Bool → (VS → Option α) → Option α := (dv1 f87.o0)
def f87.out : Bool → VS := f87.o0
def f87.inR : VS → Option (Bool)
  | ⟨[(0, .bool y)], [], 0⟩ => some y
  | _ => none
noncomputable def f87.E (K : Nat) : Entry := genE 0 f87.inA (f87.F K) f87.des
theorem f87.eq (K : Nat) (x : List Int × List Int × List Int × List Int) : f87.F K x = xrun (getA tys) (tabSp (f87.tab K)) Try.f87.ntmps 0 (f87.lp K) 400 f87.c ⟨initL 0 (f87.av x), f87.bl x, 0⟩ (contF (getA tys) 0 Try.f87.results.toList f87.inR) := by kernel_rfl
theorem f87.ok (K : Nat) : EntryOK Try.prog 87 (f87.E K) :=
  gen_ok mix tys_ok (f87.tabOK K) Try.func87 (by kernel_rfl : Try.f87.body = some f87.c) (by kernel_rfl) (f87.loops K) (av := f87.av) (bl := f87.bl) (out := f87.out) (fuel := 400)
    (by intro s x h; unfold f87.inA at h; split at h <;> simp at h; subst h; rfl) (fun _ => Nat.le_of_ble_eq_true rfl)
    (by intro s y h; unfold f87.inR at h; split at h <;> simp at h <;> subst h <;> rfl) (fun _ _ _ => rfl) (f87.eq K)
end Go.Proofs

namespace Go.Proofs
open Go.VM
/-! ### burrow/groups.Fine -/
noncomputable def f85.c : Code := bodyOf Try.f85
def f85.lp (_ : Nat) : Nat → Option (Hint × Summ) := fun _ => none
noncomputable def f85.tab (K : Nat) : List (Nat × Entry) := [(116, (f116.E K)), (44, (f44.E K)), (87, (f87.E K))]
theorem f85.tabOK (K : Nat) : SpecOK Try.prog (tabSp (f85.tab K)) := tab_ok ((tab_cons (f116.ok K) (tab_cons (f44.ok K) (tab_cons (f87.ok K) tab_nil))))
theorem f85.loops (K : Nat) : LoopsOK Try.prog 20 0 (f85.lp K) f85.c := loops_ok (by
  have h : loopsIn (f85.lp K) f85.c = [] := by kernel_rfl
  rw [h]; simp)
def f85.T (K : Nat) (a0_0 : List Int) (a0_1 : List Int) (a0_2 : List Int) : Option (Bool) :=
  (f116.F K ()).bind fun y1 =>
  (f44.F K (a0_1, y1)).bind fun y2 =>
  bif (decide (y2 > 0)) then
    (f116.F K ()).bind fun y4 =>
    bif (!(eqL 4 a0_2 y4 && true)) then
      (f87.F K (a0_0, a0_1, a0_2, a0_2)).bind fun y6 =>
      some y6
    else
      some false
  else
    some false
def f85.F (K : Nat) (x : List Int × List Int × List Int) : Option (Bool) := f85.T K x.1 x.2.1 x.2.2
def f85.av (x : List Int × List Int × List Int) : List VV := [.agg [.ints .u64 4 x.1, .ints .u64 4 x.2.1, .ints .u64 4 x.2.2]]
def f85.bl (_x : List Int × List Int × List Int) : List (Nat × Blk) := []
def f85.inA : VS → Option (List Int × List Int × List Int)
  | ⟨[(0, .agg [.ints .u64 4 a0_0, .ints .u64 4 a0_1, .ints .u64 4 a0_2])], [], 0⟩ => some (a0_0, a0_1, a0_2)
  | _ => none
def f85.o0 (y : Bool) : VS := ⟨[(0, .bool y)], [], 0⟩
def f85.des : ∀ α : Type, Bool → (VS → Option α) → Option α := (dv1 f85.o0)
def f85.out : Bool → VS := f85.o0
def f85.inR : VS → Option (Bool)
  | ⟨[(0, .bool y)], [], 0⟩ => some y
  | _ => none
noncomputable def f85.E (K : Nat) : Entry := genE 0 f85.inA (f85.F K) f85.des
theorem f85.eq (K : Nat) (x : List Int × List Int × List Int) : f85.F K x = xrun (getA tys) (tabSp (f85.tab K)) Try.f85.ntmps 0 (f85.lp K) 400 f85.c ⟨initL 0 (f85.av x), f85.bl x, 0⟩ (contF (getA tys) 0 Try.f85.results.toList f85.inR) := by kernel_rfl
theorem f85.ok (K : Nat) : EntryOK Try.prog 85 (f85.E K) :=
  gen_ok mix tys_ok (f85.tabOK K) Try.func85 (by kernel_rfl : Try.f85.body = some f85.c) (by kernel_rfl) (f85.loops K) (av := f85.av) (bl := f85.bl) (out := f85.out) (fuel := 400)
    (by intro s x h; unfold f85.inA at h; split at h <;> simp at h; subst h; rfl) (fun _ => Nat.le_of_ble_eq_true rfl)
    (by intro s y h; unfold f85.inR at h; split at h <;> simp at h <;> subst h <;> rfl) (fun _ _ _ => rfl) (f85.eq K)
end Go.Proofs

namespace Go.Proofs
open Go.VM
/-! ### burrow/sigs.below -/
noncomputable def f110.c : Code := bodyOf Try.f110
def f110.lp (_ : Nat) : Nat → Option (Hint × Summ) := fun _ => none
noncomputable def f110.tab (_K : Nat) : List (Nat × Entry) := []
theorem f110.tabOK (K : Nat) : SpecOK Try.prog (tabSp (f110.tab K)) := tab_ok ( tab_nil)
theorem f110.loops (K : Nat) : LoopsOK Try.prog 4 0 (f110.lp K) f110.c := loops_ok (by
  have h : loopsIn (f110.lp K) f110.c = [] := by kernel_rfl
  rw [h]; simp)
def f110.T (_K : Nat) (a0 : List Int) : Option (List Int) :=
  some a0
def f110.F (K : Nat) (x : List Int) : Option (List Int) := f110.T K x
def f110.av (x : List Int) : List VV := [.agg [.ints .u64 4 x]]
def f110.bl (_x : List Int) : List (Nat × Blk) := []
def f110.inA : VS → Option (List Int)
  | ⟨[(0, .agg [.ints .u64 4 a0])], [], 0⟩ => some a0
  | _ => none
def f110.o0 (y : List Int) : VS := ⟨[(0, .fn 126 [.ptr 0 0])], [(0, ([.ints .u64 4 y], 24, .norm))], 1⟩
def f110.des : ∀ α : Type, (List Int) → (VS → Option α) → Option α := (dv1 f110.o0)
def f110.out : List Int → VS := f110.o0
def f110.inR : VS → Option (List Int)
  | ⟨[(0, .fn 126 [.ptr 0 0])], [(0, ([.ints .u64 4 z0], 24, .norm))], 1⟩ => some z0
  | _ => none
noncomputable def f110.E (K : Nat) : Entry := genE 0 f110.inA (f110.F K) f110.des
theorem f110.eq (K : Nat) (x : List Int) : f110.F K x = xrun (getA tys) (tabSp (f110.tab K)) Try.f110.ntmps 0 (f110.lp K) 400 f110.c ⟨initL 0 (f110.av x), f110.bl x, 0⟩ (contF (getA tys) 0 Try.f110.results.toList f110.inR) := by kernel_rfl
theorem f110.ok (K : Nat) : EntryOK Try.prog 110 (f110.E K) :=
  gen_ok mix tys_ok (f110.tabOK K) Try.func110 (by kernel_rfl : Try.f110.body = some f110.c) (by kernel_rfl) (f110.loops K) (av := f110.av) (bl := f110.bl) (out := f110.out) (fuel := 400)
    (by intro s x h; unfold f110.inA at h; split at h <;> simp at h; subst h; rfl) (fun _ => Nat.le_of_ble_eq_true rfl)
    (by intro s y h; unfold f110.inR at h; split at h <;> simp at h <;> subst h <;> rfl) (fun _ _ _ => rfl) (f110.eq K)
end Go.Proofs

namespace Go.Proofs
open Go.VM
/-! ### burrow/sigs.below$1 -/
noncomputable def f126.c : Code := bodyOf Try.f126
def f126.s0t (K : Nat) (rec : Int × Int × List Int × List Int → Option ((Bool × List Int × List Int) ⊕ (List Int × List Int))) (t7 : Int) (t8 : Int) (b0 : List Int) (b1 : List Int) : Option ((Bool × List Int × List Int) ⊕ (List Int × List Int)) :=
  bif (decide (t8 < t7)) then
    bif decide (0 ≤ t8 ∧ t8 < 1) then
      (f44.F K ((List.take 4 (List.drop ((Int.toNat t8) * 4) b0)), b1)).bind fun y4 =>
      bif (decide (y4 ≥ 0)) then
        some (.inl (false, b0, b1))
      else
        rec (t7, (IntKind.wrap .i64 (t8 + 1)), b0, b1)
    else
      none
  else
    some (.inr (b0, b1))
def f126.s0 (K : Nat) (rec : Int × Int × List Int × List Int → Option ((Bool × List Int × List Int) ⊕ (List Int × List Int))) (x : Int × Int × List Int × List Int) : Option ((Bool × List Int × List Int) ⊕ (List Int × List Int)) := f126.s0t K rec x.1 x.2.1 x.2.2.1 x.2.2.2
noncomputable def f126.s0.b : Code := (findLoop 0 f126.c).getD .skip
def f126.s0.h : Hint := { lv := [1, 6, 7, 8] }
def f126.s0.ho : Hint := { lv := [3] }
def f126.s0.shp (x : Int × Int × List Int × List Int) : VS := ⟨[(1, .ptr 1 0), (6, .sl 0 0 1 1), (7, .int .i64 x.1), (8, .int .i64 x.2.1)], [(0, ([.ints .u64 4 x.2.2.1], 24, .norm)), (1, ([.ints .u64 4 x.2.2.2], 24, .norm))], 2⟩
def f126.s0.inX : VS → Option (Int × Int × List Int × List Int)
  | ⟨[(1, .ptr 1 0), (6, .sl 0 0 1 1), (7, .int .i64 t7), (8, .int .i64 t8)], [(0, ([.ints .u64 4 b0], 24, .norm)), (1, ([.ints .u64 4 b1], 24, .norm))], 2⟩ => some (t7, t8, b0, b1)
  | _ => none
def f126.s0.o0 (y : Bool × List Int × List Int) : VS := ⟨[(3, .bool y.1)], [(0, ([.ints .u64 4 y.2.1], 24, .norm)), (1, ([.ints .u64 4 y.2.2], 24, .norm))], 2⟩
def f126.s0.o1 (y : List Int × List Int) : VS := ⟨[], [(0, ([.ints .u64 4 y.1], 24, .norm)), (1, ([.ints .u64 4 y.2], 24, .norm))], 2⟩
def f126.s0.des : ∀ α : Type, ((Bool × List Int × List Int) ⊕ (List Int × List Int)) → (Ex → VS → Option α) → Option α := (desA (des1 (.ret) f126.s0.o0) (des1 (.exit 0) f126.s0.o1))
def f126.s0.out : (Bool × List Int × List Int) ⊕ (List Int × List Int) → Ex × VS := (alt (fun y => (.ret, f126.s0.o0 y)) (fun y => (.exit 0, f126.s0.o1 y)))
theorem f126.s0.desOK : ∀ α y (k : Ex → VS → Option α), f126.s0.des α y k = k (f126.s0.out y).1 (f126.s0.out y).2 := (desA_ok (fun _ _ _ => rfl) (fun _ _ _ => rfl))
def f126.s0.inY : Ex → VS → Option ((Bool × List Int × List Int) ⊕ (List Int × List Int))
  | .ret, ⟨[(3, .bool t3)], [(0, ([.ints .u64 4 b0], 24, .norm)), (1, ([.ints .u64 4 b1], 24, .norm))], 2⟩ => some (.inl (t3, b0, b1))
  | .exit 0, ⟨[], [(0, ([.ints .u64 4 b0], 24, .norm)), (1, ([.ints .u64 4 b1], 24, .norm))], 2⟩ => some (.inr (b0, b1))
  | _, _ => none
def f126.lp (K : Nat) : Nat → Option (Hint × Summ) := tabLp [(0, f126.s0.h, summOf (iter (f126.s0 K) K) f126.s0.inX f126.s0.des)]
noncomputable def f126.tab (K : Nat) : List (Nat × Entry) := [(44, (f44.E K))]
theorem f126.tabOK (K : Nat) : SpecOK Try.prog (tabSp (f126.tab K)) := tab_ok ((tab_cons (f44.ok K) tab_nil))
theorem f126.s0.eq (K : Nat) (rec : Int × Int × List Int × List Int → Option ((Bool × List Int × List Int) ⊕ (List Int × List Int))) (x : Int × Int × List Int × List Int) : f126.s0 K rec x = roundL (getA tys) (tabSp (f126.tab K)) 17 2 (f126.lp K) 400 f126.s0.b f126.s0.h f126.s0.ho f126.s0.shp f126.s0.inX f126.s0.inY rec x := by kernel_rfl
theorem f126.s0.lok (K : Nat) : LoopsOK Try.prog 17 2 (f126.lp K) f126.s0.b := loops_ok (by
  have h : loopsIn (f126.lp K) f126.s0.b = [] := by kernel_rfl
  rw [h]; simp)
theorem f126.s0.ok (K : Nat) : SummOK Try.prog 17 2 (summOf (iter (f126.s0 K) K) f126.s0.inX f126.s0.des) f126.s0.b :=
  loop_ok mix tys_ok (f126.tabOK K) (h := f126.s0.h) (ho := f126.s0.ho) (shp := f126.s0.shp) (inX := f126.s0.inX) (des := f126.s0.des) (out := f126.s0.out) (inY := f126.s0.inY) (fuel := 400)
    (by intro st x h; unfold f126.s0.inX at h; split at h <;> simp at h; subst h; rfl)
    (by intro e st y h; unfold f126.s0.inY at h; split at h <;> simp at h <;> subst h <;> rfl)
    f126.s0.desOK (f126.s0.lok K) (f126.s0 K) (f126.s0.eq K) K
theorem f126.loops (K : Nat) : LoopsOK Try.prog 17 2 (f126.lp K) f126.c := loops_ok (by
  have h : loopsIn (f126.lp K) f126.c = [(0, f126.s0.b)] := by kernel_rfl
  rw [h]
  intro p hp
  simp only [List.mem_cons, List.not_mem_nil, or_false] at hp
  rcases hp with rfl
  · exact ⟨_, rfl, (f126.s0.ok K)⟩)
def f126.T (K : Nat) (m0 : List Int) (m1 : List Int) : Option (Bool × List Int × List Int) :=
  (iter (f126.s0 K) K (1, 0, m0, m1)).bind fun y7 =>
  alt (fun y8 =>
    some (y8.1, y8.2.1, y8.2.2)) (fun y9 =>
    some (true, y9.1, y9.2)) y7
def f126.F (K : Nat) (x : List Int × List Int) : Option (Bool × List Int × List Int) := f126.T K x.1 x.2
def f126.av (_x : List Int × List Int) : List VV := [.sl 0 0 1 1, .ptr 1 0]
def f126.bl (x : List Int × List Int) : List (Nat × Blk) := [(0, ([.ints .u64 4 x.1], 24, .norm)), (1, ([.ints .u64 4 x.2], 24, .norm))]
def f126.inA : VS → Option (List Int × List Int)
  | ⟨[(0, .sl 0 0 1 1), (1, .ptr 1 0)], [(0, ([.ints .u64 4 m0], 24, .norm)), (1, ([.ints .u64 4 m1], 24, .norm))], 2⟩ => some (m0, m1)
  | _ => none
def f126.o0 (y : Bool × List Int × List Int) : VS := ⟨[(0, .bool y.1)], [(0, ([.ints .u64 4 y.2.1], 24, .norm)), (1, ([.ints .u64 4 y.2.2], 24, .norm))], 2⟩
def f126.des : ∀ α : Type, (Bool × List Int × List Int) → (VS → Option α) → Option α := (dv1 f126.o0)
def f126.out : Bool × List Int × List Int → VS := f126.o0
def f126.inR : VS → Option (Bool × List Int × List Int)
  | ⟨[(0, .bool y)], [(0, ([.ints .u64 4 z0], 24, .norm)), (1, ([.ints .u64 4 z1], 24, .norm))], 2⟩ => some (y, z0, z1)
  | _ => none
noncomputable def f126.E (K : Nat) : Entry := genE 2 f126.inA (f126.F K) f126.des
theorem f126.eq (K : Nat) (x : List Int × List Int) : f126.F K x = xrun (getA tys) (tabSp (f126.tab K)) Try.f126.ntmps 2 (f126.lp K) 400 f126.c ⟨initL 0 (f126.av x), f126.bl x, 2⟩ (contF (getA tys) 2 Try.f126.results.toList f126.inR) := by kernel_rfl
theorem f126.ok (K : Nat) : EntryOK Try.prog 126 (f126.E K) :=
  gen_ok mix tys_ok (f126.tabOK K) Try.func126 (by kernel_rfl : Try.f126.body = some f126.c) (by kernel_rfl) (f126.loops K) (av := f126.av) (bl := f126.bl) (out := f126.out) (fuel := 400)
    (by intro s x h; unfold f126.inA at h; split at h <;> simp at h; subst h; rfl) (fun _ => Nat.le_of_ble_eq_true rfl)
    (by intro s y h; unfold f126.inR at h; split at h <;> simp at h <;> subst h <;> rfl) (fun _ _ _ => rfl) (f126.eq K)
end Go.Proofs

namespace Go.Proofs
open Go.VM
/-! ### burrow/sigs.Key -/
noncomputable def f77.c : Code := bodyOf Try.f77
def f77.lp (_ : Nat) : Nat → Option (Hint × Summ) := fun _ => none
noncomputable def f77.tab (K : Nat) : List (Nat × Entry) := [(85, (f85.E K)), (46, (f46.E K)), (110, (f110.E K)), (126, (f126.E K)), (80, (f80.E K))]
theorem f77.tabOK (K : Nat) : SpecOK Try.prog (tabSp (f77.tab K)) := tab_ok ((tab_cons (f85.ok K) (tab_cons (f46.ok K) (tab_cons (f110.ok K) (tab_cons (f126.ok K) (tab_cons (f80.ok K) tab_nil))))))
theorem f77.loops (K : Nat) : LoopsOK Try.prog 31 0 (f77.lp K) f77.c := loops_ok (by
  have h : loopsIn (f77.lp K) f77.c = [] := by kernel_rfl
  rw [h]; simp)
def f77.T (K : Nat) (a0_0 : List Int) (a0_1 : List Int) (a0_2 : List Int) (a1 : List Int) : Option (List Int × Int) :=
  (f85.F K (a0_0, a0_1, a0_2)).bind fun y1 =>
  bif !y1 then
    some ([0, 0, 0, 0], 1)
  else
    (f46.F K 0).bind fun y2 =>
    bif (eqL 4 a1 y2 && true) then
      some ([0, 0, 0, 0], 1)
    else
      (f110.F K a0_1).bind fun y4 =>
      (f126.F K (a1, y4)).bind fun y5 =>
      bif !y5.1 then
        some ([0, 0, 0, 0], 1)
      else
        (f80.F K (a0_0, a0_1, a0_2, a0_2, a1)).bind fun y6 =>
        some (y6.1, y6.2)
def f77.F (K : Nat) (x : List Int × List Int × List Int × List Int) : Option (List Int × Int) := f77.T K x.1 x.2.1 x.2.2.1 x.2.2.2
def f77.av (x : List Int × List Int × List Int × List Int) : List VV := [.agg [.ints .u64 4 x.1, .ints .u64 4 x.2.1, .ints .u64 4 x.2.2.1], .agg [.ints .u64 4 x.2.2.2]]
def f77.bl (_x : List Int × List Int × List Int × List Int) : List (Nat × Blk) := []
def f77.inA : VS → Option (List Int × List Int × List Int × List Int)
  | ⟨[(0, .agg [.ints .u64 4 a0_0, .ints .u64 4 a0_1, .ints .u64 4 a0_2]), (1, .agg [.ints .u64 4 a1])], [], 0⟩ => some (a0_0, a0_1, a0_2, a1)
  | _ => none
def f77.o0 (y : List Int × Int) : VS := ⟨[(0, .tup [.agg [.ints .u64 4 y.1], .int .i64 y.2])], [], 0⟩
def f77.des : ∀ α : Type, (List Int × Int) → (VS → Option α) → Option α := (dv1 f77.o0)
def f77.out : List Int × Int → VS := f77.o0
def f77.inR : VS → Option (List Int × Int)
  | ⟨[(0, .tup [.agg [.ints .u64 4 y_0], .int .i64 y_1])], [], 0⟩ => some (y_0, y_1)
  | _ => none
noncomputable def f77.E (K : Nat) : Entry := genE 0 f77.inA (f77.F K) f77.des
theorem f77.eq (K : Nat) (x : List Int × List Int × List Int × List Int) : f77.F K x = xrun (getA tys) (tabSp (f77.tab K)) Try.f77.ntmps 0 (f77.lp K) 400 f77.c ⟨initL 0 (f77.av x), f77.bl x, 0⟩ (contF (getA tys) 0 Try.f77.results.toList f77.inR) := by kernel_rfl
theorem f77.ok (K : Nat) : EntryOK Try.prog 77 (f77.E K) :=
  gen_ok mix tys_ok (f77.tabOK K) Try.func77 (by kernel_rfl : Try.f77.body = some f77.c) (by kernel_rfl) (f77.loops K) (av := f77.av) (bl := f77.bl) (out := f77.out) (fuel := 400)
    (by intro s x h; unfold f77.inA at h; split at h <;> simp at h; subst h; rfl) (fun _ => Nat.le_of_ble_eq_true rfl)
    (by intro s y h; unfold f77.inR at h; split at h <;> simp at h <;> subst h <;> rfl) (fun _ _ _ => rfl) (f77.eq K)
end Go.Proofs

namespace Go.Proofs
open Go.VM
/-! ### burrow/burrowlaw07.lives -/
noncomputable def f78.c : Code := bodyOf Try.f78
def f78.lp (_ : Nat) : Nat → Option (Hint × Summ) := fun _ => none
noncomputable def f78.tab (K : Nat) : List (Nat × Entry) := [(77, (f77.E K)), (46, (f46.E K))]
theorem f78.tabOK (K : Nat) : SpecOK Try.prog (tabSp (f78.tab K)) := tab_ok ((tab_cons (f77.ok K) (tab_cons (f46.ok K) tab_nil)))
theorem f78.loops (K : Nat) : LoopsOK Try.prog 45 0 (f78.lp K) f78.c := loops_ok (by
  have h : loopsIn (f78.lp K) f78.c = [] := by kernel_rfl
  rw [h]; simp)
def f78.T (K : Nat)  : Option (Bool) :=
  (f77.F K ([23, 0, 0, 0], [11, 0, 0, 0], [4, 0, 0, 0], [0, 0, 0, 0])).bind fun y1 =>
  (f77.F K ([23, 0, 0, 0], [11, 0, 0, 0], [4, 0, 0, 0], [11, 0, 0, 0])).bind fun y2 =>
  (f77.F K ([23, 0, 0, 0], [11, 0, 0, 0], [4, 0, 0, 0], [1, 0, 0, 0])).bind fun y3 =>
  bif (y1.2 == 1) then
    bif (y2.2 == 1) then
      (f46.F K 4).bind fun y4 =>
      bif (eqL 4 y3.1 y4 && true) then
        some (y3.2 == 0)
      else
        some false
    else
      some false
  else
    some false
def f78.F (K : Nat) (_x : Unit) : Option (Bool) := f78.T K 
def f78.av (_x : Unit) : List VV := []
def f78.bl (_x : Unit) : List (Nat × Blk) := []
def f78.inA : VS → Option (Unit)
  | ⟨[], [], 0⟩ => some ()
  | _ => none
def f78.o0 (y : Bool) : VS := ⟨[(0, .bool y)], [], 0⟩
def f78.des : ∀ α : Type, Bool → (VS → Option α) → Option α := (dv1 f78.o0)
def f78.out : Bool → VS := f78.o0
def f78.inR : VS → Option (Bool)
  | ⟨[(0, .bool y)], [], 0⟩ => some y
  | _ => none
noncomputable def f78.E (K : Nat) : Entry := genE 0 f78.inA (f78.F K) f78.des
theorem f78.eq (K : Nat) (x : Unit) : f78.F K x = xrun (getA tys) (tabSp (f78.tab K)) Try.f78.ntmps 0 (f78.lp K) 400 f78.c ⟨initL 0 (f78.av x), f78.bl x, 0⟩ (contF (getA tys) 0 Try.f78.results.toList f78.inR) := by kernel_rfl
theorem f78.ok (K : Nat) : EntryOK Try.prog 78 (f78.E K) :=
  gen_ok mix tys_ok (f78.tabOK K) Try.func78 (by kernel_rfl : Try.f78.body = some f78.c) (by kernel_rfl) (f78.loops K) (av := f78.av) (bl := f78.bl) (out := f78.out) (fuel := 400)
    (by intro s x h; unfold f78.inA at h; split at h <;> simp at h; rfl) (fun _ => Nat.le_of_ble_eq_true rfl)
    (by intro s y h; unfold f78.inR at h; split at h <;> simp at h <;> subst h <;> rfl) (fun _ _ _ => rfl) (f78.eq K)
end Go.Proofs

namespace Go.Proofs
open Go.VM
/-! ### burrow/burrowlaw06.small -/
noncomputable def f117.c : Code := bodyOf Try.f117
def f117.lp (_ : Nat) : Nat → Option (Hint × Summ) := fun _ => none
noncomputable def f117.tab (_K : Nat) : List (Nat × Entry) := []
theorem f117.tabOK (K : Nat) : SpecOK Try.prog (tabSp (f117.tab K)) := tab_ok ( tab_nil)
theorem f117.loops (K : Nat) : LoopsOK Try.prog 5 0 (f117.lp K) f117.c := loops_ok (by
  have h : loopsIn (f117.lp K) f117.c = [] := by kernel_rfl
  rw [h]; simp)
def f117.T (_K : Nat)  : Option (List Int × List Int × List Int) :=
  some ([23, 0, 0, 0], [11, 0, 0, 0], [4, 0, 0, 0])
def f117.F (K : Nat) (_x : Unit) : Option (List Int × List Int × List Int) := f117.T K 
def f117.av (_x : Unit) : List VV := []
def f117.bl (_x : Unit) : List (Nat × Blk) := []
def f117.inA : VS → Option (Unit)
  | ⟨[], [], 0⟩ => some ()
  | _ => none
def f117.o0 (y : List Int × List Int × List Int) : VS := ⟨[(0, .agg [.ints .u64 4 y.1, .ints .u64 4 y.2.1, .ints .u64 4 y.2.2])], [], 0⟩
def f117.des : ∀ α : Type, (List Int × List Int × List Int) → (VS → Option α) → Option α := (dv1 f117.o0)
def f117.out : List Int × List Int × List Int → VS := f117.o0
def f117.inR : VS → Option (List Int × List Int × List Int)
  | ⟨[(0, .agg [.ints .u64 4 y_0, .ints .u64 4 y_1, .ints .u64 4 y_2])], [], 0⟩ => some (y_0, y_1, y_2)
  | _ => none
noncomputable def f117.E (K : Nat) : Entry := genE 0 f117.inA (f117.F K) f117.des
theorem f117.eq (K : Nat) (x : Unit) : f117.F K x = xrun (getA tys) (tabSp (f117.tab K)) Try.f117.ntmps 0 (f117.lp K) 400 f117.c ⟨initL 0 (f117.av x), f117.bl x, 0⟩ (contF (getA tys) 0 Try.f117.results.toList f117.inR) := by kernel_rfl
theorem f117.ok (K : Nat) : EntryOK Try.prog 117 (f117.E K) :=
  gen_ok mix tys_ok (f117.tabOK K) Try.func117 (by kernel_rfl : Try.f117.body = some f117.c) (by kernel_rfl) (f117.loops K) (av := f117.av) (bl := f117.bl) (out := f117.out) (fuel := 400)
    (by intro s x h; unfold f117.inA at h; split at h <;> simp at h; rfl) (fun _ => Nat.le_of_ble_eq_true rfl)
    (by intro s y h; unfold f117.inR at h; split at h <;> simp at h <;> subst h <;> rfl) (fun _ _ _ => rfl) (f117.eq K)
end Go.Proofs

namespace Go.Proofs
open Go.VM
/-! ### burrow/burrowlaw06.lives -/
noncomputable def f89.c : Code := bodyOf Try.f89
def f89.lp (_ : Nat) : Nat → Option (Hint × Summ) := fun _ => none
noncomputable def f89.tab (K : Nat) : List (Nat × Entry) := [(117, (f117.E K)), (79, (f79.E K)), (82, (f82.E K)), (80, (f80.E K)), (85, (f85.E K)), (87, (f87.E K)), (46, (f46.E K))]
theorem f89.tabOK (K : Nat) : SpecOK Try.prog (tabSp (f89.tab K)) := tab_ok ((tab_cons (f117.ok K) (tab_cons (f79.ok K) (tab_cons (f82.ok K) (tab_cons (f80.ok K) (tab_cons (f85.ok K) (tab_cons (f87.ok K) (tab_cons (f46.ok K) tab_nil))))))))
theorem f89.loops (K : Nat) : LoopsOK Try.prog 87 0 (f89.lp K) f89.c := loops_ok (by
  have h : loopsIn (f89.lp K) f89.c = [] := by kernel_rfl
  rw [h]; simp)
def f89.T (K : Nat)  : Option (Bool) :=
  (f117.F K ()).bind fun y1 =>
  (f79.F K (y1.1, y1.2.1, y1.2.2, [9, 0, 0, 0], [13, 0, 0, 0])).bind fun y2 =>
  (f82.F K (y1.1, y1.2.1, y1.2.2, [4, 0, 0, 0])).bind fun y3 =>
  (f80.F K (y1.1, y1.2.1, y1.2.2, [4, 0, 0, 0], [11, 0, 0, 0])).bind fun y4 =>
  (f80.F K (y1.1, y1.2.1, y1.2.2, [0, 0, 0, 0], [1, 0, 0, 0])).bind fun y5 =>
  (f85.F K (y1.1, y1.2.1, y1.2.2)).bind fun y6 =>
  bif y6 then
    (f87.F K (y1.1, y1.2.1, y1.2.2, [4, 0, 0, 0])).bind fun y7 =>
    bif y7 then
      (f87.F K (y1.1, y1.2.1, y1.2.2, [5, 0, 0, 0])).bind fun y8 =>
      bif !y8 then
        (f46.F K 2).bind fun y9 =>
        bif (eqL 4 y2.1 y9 && true) then
          bif (y2.2 == 0) then
            (f46.F K 6).bind fun y11 =>
            bif (eqL 4 y3.1 y11 && true) then
              bif (y3.2 == 0) then
                (f46.F K 1).bind fun y13 =>
                bif (eqL 4 y4.1 y13 && true) then
                  bif (y4.2 == 0) then
                    bif (y5.2 == 1) then
                      (f85.F K ([0, 0, 0, 0], [0, 0, 0, 0], [0, 0, 0, 0])).bind fun y15 =>
                      some (!y15)
                    else
                      some false
                  else
                    some false
                else
                  some false
              else
                some false
            else
              some false
          else
            some false
        else
          some false
      else
        some false
    else
      some false
  else
    some false
def f89.F (K : Nat) (_x : Unit) : Option (Bool) := f89.T K 
def f89.av (_x : Unit) : List VV := []
def f89.bl (_x : Unit) : List (Nat × Blk) := []
def f89.inA : VS → Option (Unit)
  | ⟨[], [], 0⟩ => some ()
  | _ => none
def f89.o0 (y : Bool) : VS := ⟨[(0, .bool y)], [], 0⟩
def f89.des : ∀ α : Type, Bool → (VS → Option α) → Option α := (dv1 f89.o0)
def f89.out : Bool → VS := f89.o0
def f89.inR : VS → Option (Bool)
  | ⟨[(0, .bool y)], [], 0⟩ => some y
  | _ => none
noncomputable def f89.E (K : Nat) : Entry := genE 0 f89.inA (f89.F K) f89.des
theorem f89.eq (K : Nat) (x : Unit) : f89.F K x = xrun (getA tys) (tabSp (f89.tab K)) Try.f89.ntmps 0 (f89.lp K) 400 f89.c ⟨initL 0 (f89.av x), f89.bl x, 0⟩ (contF (getA tys) 0 Try.f89.results.toList f89.inR) := by kernel_rfl
theorem f89.ok (K : Nat) : EntryOK Try.prog 89 (f89.E K) :=
  gen_ok mix tys_ok (f89.tabOK K) Try.func89 (by kernel_rfl : Try.f89.body = some f89.c) (by kernel_rfl) (f89.loops K) (av := f89.av) (bl := f89.bl) (out := f89.out) (fuel := 400)
    (by intro s x h; unfold f89.inA at h; split at h <;> simp at h; rfl) (fun _ => Nat.le_of_ble_eq_true rfl)
    (by intro s y h; unfold f89.inR at h; split at h <;> simp at h <;> subst h <;> rfl) (fun _ _ _ => rfl) (f89.eq K)
end Go.Proofs

namespace Go.Proofs
open Go.VM
/-! ### burrow/burrowlaw06.GroupsClosed -/
noncomputable def f25.c : Code := bodyOf Try.f25
def f25.lp (_ : Nat) : Nat → Option (Hint × Summ) := fun _ => none
noncomputable def f25.tab (K : Nat) : List (Nat × Entry) := [(89, (f89.E K)), (87, (f87.E K)), (79, (f79.E K)), (82, (f82.E K)), (80, (f80.E K)), (46, (f46.E K))]
theorem f25.tabOK (K : Nat) : SpecOK Try.prog (tabSp (f25.tab K)) := tab_ok ((tab_cons (f89.ok K) (tab_cons (f87.ok K) (tab_cons (f79.ok K) (tab_cons (f82.ok K) (tab_cons (f80.ok K) (tab_cons (f46.ok K) tab_nil)))))))
theorem f25.loops (K : Nat) : LoopsOK Try.prog 104 0 (f25.lp K) f25.c := loops_ok (by
  have h : loopsIn (f25.lp K) f25.c = [] := by kernel_rfl
  rw [h]; simp)
def f25.T (K : Nat) (a0_0 : List Int) (a0_1 : List Int) (a0_2 : List Int) (a0_3 : List Int) (a0_4 : List Int) (a0_5 : List Int) : Option (Bool) :=
  bif (eqL 4 a0_1 [0, 0, 0, 0] && true) then
    (f89.F K ()).bind fun y2 =>
    some y2
  else
    (f87.F K (a0_0, a0_1, a0_2, a0_3)).bind fun y3 =>
    bif !y3 then
      (f89.F K ()).bind fun y4 =>
      some y4
    else
      (f87.F K (a0_0, a0_1, a0_2, a0_4)).bind fun y5 =>
      bif !y5 then
        (f89.F K ()).bind fun y6 =>
        some y6
      else
        (f79.F K (a0_0, a0_1, a0_2, a0_3, a0_4)).bind fun y7 =>
        (f82.F K (a0_0, a0_1, a0_2, a0_3)).bind fun y8 =>
        (f80.F K (a0_0, a0_1, a0_2, a0_3, a0_5)).bind fun y9 =>
        (f79.F K (a0_0, a0_1, a0_2, a0_3, y8.1)).bind fun y10 =>
        bif (y7.2 == 0) then
          bif (y8.2 == 0) then
            bif (y9.2 == 0) then
              bif (y10.2 == 0) then
                (f87.F K (a0_0, a0_1, a0_2, y7.1)).bind fun y12 =>
                bif y12 then
                  (f87.F K (a0_0, a0_1, a0_2, y8.1)).bind fun y13 =>
                  bif y13 then
                    (f87.F K (a0_0, a0_1, a0_2, y9.1)).bind fun y14 =>
                    bif y14 then
                      (f46.F K 1).bind fun y15 =>
                      bif (eqL 4 y10.1 y15 && true) then
                        (f89.F K ()).bind fun y17 =>
                        some y17
                      else
                        some false
                    else
                      some false
                  else
                    some false
                else
                  some false
              else
                some false
            else
              some false
          else
            some false
        else
          some false
def f25.F (K : Nat) (x : List Int × List Int × List Int × List Int × List Int × List Int) : Option (Bool) := f25.T K x.1 x.2.1 x.2.2.1 x.2.2.2.1 x.2.2.2.2.1 x.2.2.2.2.2
def f25.av (x : List Int × List Int × List Int × List Int × List Int × List Int) : List VV := [.agg [.ints .u64 4 x.1, .ints .u64 4 x.2.1, .ints .u64 4 x.2.2.1, .ints .u64 4 x.2.2.2.1, .ints .u64 4 x.2.2.2.2.1, .ints .u64 4 x.2.2.2.2.2]]
def f25.bl (_x : List Int × List Int × List Int × List Int × List Int × List Int) : List (Nat × Blk) := []
def f25.inA : VS → Option (List Int × List Int × List Int × List Int × List Int × List Int)
  | ⟨[(0, .agg [.ints .u64 4 a0_0, .ints .u64 4 a0_1, .ints .u64 4 a0_2, .ints .u64 4 a0_3, .ints .u64 4 a0_4, .ints .u64 4 a0_5])], [], 0⟩ => some (a0_0, a0_1, a0_2, a0_3, a0_4, a0_5)
  | _ => none
def f25.o0 (y : Bool) : VS := ⟨[(0, .bool y)], [], 0⟩
def f25.des : ∀ α : Type, Bool → (VS → Option α) → Option α := (dv1 f25.o0)
def f25.out : Bool → VS := f25.o0
def f25.inR : VS → Option (Bool)
  | ⟨[(0, .bool y)], [], 0⟩ => some y
  | _ => none
noncomputable def f25.E (K : Nat) : Entry := genE 0 f25.inA (f25.F K) f25.des
theorem f25.eq (K : Nat) (x : List Int × List Int × List Int × List Int × List Int × List Int) : f25.F K x = xrun (getA tys) (tabSp (f25.tab K)) Try.f25.ntmps 0 (f25.lp K) 400 f25.c ⟨initL 0 (f25.av x), f25.bl x, 0⟩ (contF (getA tys) 0 Try.f25.results.toList f25.inR) := by kernel_rfl
theorem f25.ok (K : Nat) : EntryOK Try.prog 25 (f25.E K) :=
  gen_ok mix tys_ok (f25.tabOK K) Try.func25 (by kernel_rfl : Try.f25.body = some f25.c) (by kernel_rfl) (f25.loops K) (av := f25.av) (bl := f25.bl) (out := f25.out) (fuel := 400)
    (by intro s x h; unfold f25.inA at h; split at h <;> simp at h; subst h; rfl) (fun _ => Nat.le_of_ble_eq_true rfl)
    (by intro s y h; unfold f25.inR at h; split at h <;> simp at h <;> subst h <;> rfl) (fun _ _ _ => rfl) (f25.eq K)
end Go.Proofs

namespace Go.Proofs
open Go.VM
/-! ### burrow/burrowlaw06.GroupsRound -/
noncomputable def f26.c : Code := bodyOf Try.f26
def f26.lp (_ : Nat) : Nat → Option (Hint × Summ) := fun _ => none
noncomputable def f26.tab (K : Nat) : List (Nat × Entry) := [(32, (f32.E K)), (89, (f89.E K)), (87, (f87.E K)), (80, (f80.E K)), (79, (f79.E K))]
theorem f26.tabOK (K : Nat) : SpecOK Try.prog (tabSp (f26.tab K)) := tab_ok ((tab_cons (f32.ok K) (tab_cons (f89.ok K) (tab_cons (f87.ok K) (tab_cons (f80.ok K) (tab_cons (f79.ok K) tab_nil))))))
theorem f26.loops (K : Nat) : LoopsOK Try.prog 124 0 (f26.lp K) f26.c := loops_ok (by
  have h : loopsIn (f26.lp K) f26.c = [] := by kernel_rfl
  rw [h]; simp)
def f26.T (K : Nat) (a0_0 : List Int) (a0_1 : List Int) (a0_2 : List Int) (a0_3 : List Int) (a0_4 : List Int) (a0_5 : List Int) : Option (Bool) :=
  (f32.F K (a0_4, a0_5)).bind fun y1 =>
  bif (eqL 4 a0_1 [0, 0, 0, 0] && true) then
    (f89.F K ()).bind fun y3 =>
    some y3
  else
    (f87.F K (a0_0, a0_1, a0_2, a0_3)).bind fun y4 =>
    bif !y4 then
      (f89.F K ()).bind fun y5 =>
      some y5
    else
      bif (y1.2 != 0) then
        (f89.F K ()).bind fun y6 =>
        some y6
      else
        (f80.F K (a0_0, a0_1, a0_2, a0_3, a0_4)).bind fun y7 =>
        (f80.F K (a0_0, a0_1, a0_2, a0_3, a0_5)).bind fun y8 =>
        (f80.F K (a0_0, a0_1, a0_2, a0_3, y1.1)).bind fun y9 =>
        (f79.F K (a0_0, a0_1, a0_2, y7.1, y8.1)).bind fun y10 =>
        bif (y7.2 != 0) then
          some false
        else
          bif (y8.2 != 0) then
            some false
          else
            bif (y9.2 != 0) then
              some false
            else
              bif (y10.2 != 0) then
                some false
              else
                bif (!(eqL 4 y10.1 y9.1 && true)) then
                  some false
                else
                  (f32.F K (a0_4, a0_1)).bind fun y13 =>
                  bif (y13.2 != 0) then
                    (f89.F K ()).bind fun y15 =>
                    some y15
                  else
                    (f80.F K (a0_0, a0_1, a0_2, a0_3, y13.1)).bind fun y16 =>
                    bif (y16.2 == 0) then
                      bif (eqL 4 y16.1 y7.1 && true) then
                        (f89.F K ()).bind fun y19 =>
                        some y19
                      else
                        some false
                    else
                      some false
def f26.F (K : Nat) (x : List Int × List Int × List Int × List Int × List Int × List Int) : Option (Bool) := f26.T K x.1 x.2.1 x.2.2.1 x.2.2.2.1 x.2.2.2.2.1 x.2.2.2.2.2
def f26.av (x : List Int × List Int × List Int × List Int × List Int × List Int) : List VV := [.agg [.ints .u64 4 x.1, .ints .u64 4 x.2.1, .ints .u64 4 x.2.2.1, .ints .u64 4 x.2.2.2.1, .ints .u64 4 x.2.2.2.2.1, .ints .u64 4 x.2.2.2.2.2]]
def f26.bl (_x : List Int × List Int × List Int × List Int × List Int × List Int) : List (Nat × Blk) := []
def f26.inA : VS → Option (List Int × List Int × List Int × List Int × List Int × List Int)
  | ⟨[(0, .agg [.ints .u64 4 a0_0, .ints .u64 4 a0_1, .ints .u64 4 a0_2, .ints .u64 4 a0_3, .ints .u64 4 a0_4, .ints .u64 4 a0_5])], [], 0⟩ => some (a0_0, a0_1, a0_2, a0_3, a0_4, a0_5)
  | _ => none
def f26.o0 (y : Bool) : VS := ⟨[(0, .bool y)], [], 0⟩
def f26.des : ∀ α : Type, Bool → (VS → Option α) → Option α := (dv1 f26.o0)
def f26.out : Bool → VS := f26.o0
def f26.inR : VS → Option (Bool)
  | ⟨[(0, .bool y)], [], 0⟩ => some y
  | _ => none
noncomputable def f26.E (K : Nat) : Entry := genE 0 f26.inA (f26.F K) f26.des
theorem f26.eq (K : Nat) (x : List Int × List Int × List Int × List Int × List Int × List Int) : f26.F K x = xrun (getA tys) (tabSp (f26.tab K)) Try.f26.ntmps 0 (f26.lp K) 400 f26.c ⟨initL 0 (f26.av x), f26.bl x, 0⟩ (contF (getA tys) 0 Try.f26.results.toList f26.inR) := by kernel_rfl
theorem f26.ok (K : Nat) : EntryOK Try.prog 26 (f26.E K) :=
  gen_ok mix tys_ok (f26.tabOK K) Try.func26 (by kernel_rfl : Try.f26.body = some f26.c) (by kernel_rfl) (f26.loops K) (av := f26.av) (bl := f26.bl) (out := f26.out) (fuel := 400)
    (by intro s x h; unfold f26.inA at h; split at h <;> simp at h; subst h; rfl) (fun _ => Nat.le_of_ble_eq_true rfl)
    (by intro s y h; unfold f26.inR at h; split at h <;> simp at h <;> subst h <;> rfl) (fun _ _ _ => rfl) (f26.eq K)
end Go.Proofs

namespace Go.Proofs
open Go.VM
/-! ### burrow/burrowlaw06.GroupsShare -/
noncomputable def f27.c : Code := bodyOf Try.f27
def f27.lp (_ : Nat) : Nat → Option (Hint × Summ) := fun _ => none
noncomputable def f27.tab (K : Nat) : List (Nat × Entry) := [(80, (f80.E K)), (89, (f89.E K))]
theorem f27.tabOK (K : Nat) : SpecOK Try.prog (tabSp (f27.tab K)) := tab_ok ((tab_cons (f80.ok K) (tab_cons (f89.ok K) tab_nil)))
theorem f27.loops (K : Nat) : LoopsOK Try.prog 79 0 (f27.lp K) f27.c := loops_ok (by
  have h : loopsIn (f27.lp K) f27.c = [] := by kernel_rfl
  rw [h]; simp)
def f27.T (K : Nat) (a0_0 : List Int) (a0_1 : List Int) (a0_2 : List Int) (a0_3 : List Int) (a0_4 : List Int) (a0_5 : List Int) : Option (Bool) :=
  (f80.F K (a0_0, a0_1, a0_2, a0_3, a0_4)).bind fun y1 =>
  (f80.F K (a0_0, a0_1, a0_2, a0_3, a0_5)).bind fun y2 =>
  bif (y1.2 != 0) then
    (f89.F K ()).bind fun y3 =>
    some y3
  else
    bif (y2.2 != 0) then
      (f89.F K ()).bind fun y4 =>
      some y4
    else
      bif (eqL 4 y1.1 [0, 0, 0, 0] && true) then
        (f89.F K ()).bind fun y6 =>
        some y6
      else
        bif (eqL 4 y2.1 [0, 0, 0, 0] && true) then
          (f89.F K ()).bind fun y8 =>
          some y8
        else
          (f80.F K (a0_0, a0_1, a0_2, y1.1, a0_5)).bind fun y9 =>
          (f80.F K (a0_0, a0_1, a0_2, y2.1, a0_4)).bind fun y10 =>
          bif (y9.2 == y10.2) then
            bif (eqL 4 y9.1 y10.1 && true) then
              (f89.F K ()).bind fun y13 =>
              some y13
            else
              some false
          else
            some false
def f27.F (K : Nat) (x : List Int × List Int × List Int × List Int × List Int × List Int) : Option (Bool) := f27.T K x.1 x.2.1 x.2.2.1 x.2.2.2.1 x.2.2.2.2.1 x.2.2.2.2.2
def f27.av (x : List Int × List Int × List Int × List Int × List Int × List Int) : List VV := [.agg [.ints .u64 4 x.1, .ints .u64 4 x.2.1, .ints .u64 4 x.2.2.1, .ints .u64 4 x.2.2.2.1, .ints .u64 4 x.2.2.2.2.1, .ints .u64 4 x.2.2.2.2.2]]
def f27.bl (_x : List Int × List Int × List Int × List Int × List Int × List Int) : List (Nat × Blk) := []
def f27.inA : VS → Option (List Int × List Int × List Int × List Int × List Int × List Int)
  | ⟨[(0, .agg [.ints .u64 4 a0_0, .ints .u64 4 a0_1, .ints .u64 4 a0_2, .ints .u64 4 a0_3, .ints .u64 4 a0_4, .ints .u64 4 a0_5])], [], 0⟩ => some (a0_0, a0_1, a0_2, a0_3, a0_4, a0_5)
  | _ => none
def f27.o0 (y : Bool) : VS := ⟨[(0, .bool y)], [], 0⟩
def f27.des : ∀ α : Type, Bool → (VS → Option α) → Option α := (dv1 f27.o0)
def f27.out : Bool → VS := f27.o0
def f27.inR : VS → Option (Bool)
  | ⟨[(0, .bool y)], [], 0⟩ => some y
  | _ => none
noncomputable def f27.E (K : Nat) : Entry := genE 0 f27.inA (f27.F K) f27.des
theorem f27.eq (K : Nat) (x : List Int × List Int × List Int × List Int × List Int × List Int) : f27.F K x = xrun (getA tys) (tabSp (f27.tab K)) Try.f27.ntmps 0 (f27.lp K) 400 f27.c ⟨initL 0 (f27.av x), f27.bl x, 0⟩ (contF (getA tys) 0 Try.f27.results.toList f27.inR) := by kernel_rfl
theorem f27.ok (K : Nat) : EntryOK Try.prog 27 (f27.E K) :=
  gen_ok mix tys_ok (f27.tabOK K) Try.func27 (by kernel_rfl : Try.f27.body = some f27.c) (by kernel_rfl) (f27.loops K) (av := f27.av) (bl := f27.bl) (out := f27.out) (fuel := 400)
    (by intro s x h; unfold f27.inA at h; split at h <;> simp at h; subst h; rfl) (fun _ => Nat.le_of_ble_eq_true rfl)
    (by intro s y h; unfold f27.inR at h; split at h <;> simp at h <;> subst h <;> rfl) (fun _ _ _ => rfl) (f27.eq K)
end Go.Proofs

namespace Go.Proofs
open Go.VM
/-! ### burrow/burrowlaw06.GroupsWhole -/
noncomputable def f28.c : Code := bodyOf Try.f28
def f28.lp (_ : Nat) : Nat → Option (Hint × Summ) := fun _ => none
noncomputable def f28.tab (K : Nat) : List (Nat × Entry) := [(79, (f79.E K)), (89, (f89.E K)), (63, (f63.E K)), (80, (f80.E K)), (46, (f46.E K))]
theorem f28.tabOK (K : Nat) : SpecOK Try.prog (tabSp (f28.tab K)) := tab_ok ((tab_cons (f79.ok K) (tab_cons (f89.ok K) (tab_cons (f63.ok K) (tab_cons (f80.ok K) (tab_cons (f46.ok K) tab_nil))))))
theorem f28.loops (K : Nat) : LoopsOK Try.prog 103 0 (f28.lp K) f28.c := loops_ok (by
  have h : loopsIn (f28.lp K) f28.c = [] := by kernel_rfl
  rw [h]; simp)
def f28.T (K : Nat) (a0_0 : List Int) (a0_1 : List Int) (a0_2 : List Int) (a1 : List Int) (a2 : List Int) : Option (Bool) :=
  (f79.F K (a0_0, a0_1, a0_2, a1, a2)).bind fun y1 =>
  bif (y1.2 != 0) then
    bif (y1.2 == 1) then
      bif (eqL 4 y1.1 [0, 0, 0, 0] && true) then
        (f89.F K ()).bind fun y3 =>
        some y3
      else
        some false
    else
      some false
  else
    (f63.F K (a1, a2, a0_0)).bind fun y4 =>
    (f63.F K (a2, a1, a0_0)).bind fun y5 =>
    (f80.F K (a0_0, a0_1, a0_2, a1, [0, 0, 0, 0])).bind fun y6 =>
    (f46.F K 1).bind fun y7 =>
    (f80.F K (a0_0, a0_1, a0_2, a1, y7)).bind fun y8 =>
    bif (y4.2 == 0) then
      bif (y5.2 == 0) then
        bif (eqL 4 y1.1 y4.1 && true) then
          bif (eqL 4 y4.1 y5.1 && true) then
            bif (y6.2 == 0) then
              bif (y8.2 == 0) then
                (f46.F K 1).bind fun y11 =>
                bif (eqL 4 y6.1 y11 && true) then
                  bif (eqL 4 y8.1 a1 && true) then
                    (f89.F K ()).bind fun y14 =>
                    some y14
                  else
                    some false
                else
                  some false
              else
                some false
            else
              some false
          else
            some false
        else
          some false
      else
        some false
    else
      some false
def f28.F (K : Nat) (x : List Int × List Int × List Int × List Int × List Int) : Option (Bool) := f28.T K x.1 x.2.1 x.2.2.1 x.2.2.2.1 x.2.2.2.2
def f28.av (x : List Int × List Int × List Int × List Int × List Int) : List VV := [.agg [.ints .u64 4 x.1, .ints .u64 4 x.2.1, .ints .u64 4 x.2.2.1], .agg [.ints .u64 4 x.2.2.2.1], .agg [.ints .u64 4 x.2.2.2.2]]
def f28.bl (_x : List Int × List Int × List Int × List Int × List Int) : List (Nat × Blk) := []
def f28.inA : VS → Option (List Int × List Int × List Int × List Int × List Int)
  | ⟨[(0, .agg [.ints .u64 4 a0_0, .ints .u64 4 a0_1, .ints .u64 4 a0_2]), (1, .agg [.ints .u64 4 a1]), (2, .agg [.ints .u64 4 a2])], [], 0⟩ => some (a0_0, a0_1, a0_2, a1, a2)
  | _ => none
def f28.o0 (y : Bool) : VS := ⟨[(0, .bool y)], [], 0⟩
def f28.des : ∀ α : Type, Bool → (VS → Option α) → Option α := (dv1 f28.o0)
def f28.out : Bool → VS := f28.o0
def f28.inR : VS → Option (Bool)
  | ⟨[(0, .bool y)], [], 0⟩ => some y
  | _ => none
noncomputable def f28.E (K : Nat) : Entry := genE 0 f28.inA (f28.F K) f28.des
theorem f28.eq (K : Nat) (x : List Int × List Int × List Int × List Int × List Int) : f28.F K x = xrun (getA tys) (tabSp (f28.tab K)) Try.f28.ntmps 0 (f28.lp K) 400 f28.c ⟨initL 0 (f28.av x), f28.bl x, 0⟩ (contF (getA tys) 0 Try.f28.results.toList f28.inR) := by kernel_rfl
theorem f28.ok (K : Nat) : EntryOK Try.prog 28 (f28.E K) :=
  gen_ok mix tys_ok (f28.tabOK K) Try.func28 (by kernel_rfl : Try.f28.body = some f28.c) (by kernel_rfl) (f28.loops K) (av := f28.av) (bl := f28.bl) (out := f28.out) (fuel := 400)
    (by intro s x h; unfold f28.inA at h; split at h <;> simp at h; subst h; rfl) (fun _ => Nat.le_of_ble_eq_true rfl)
    (by intro s y h; unfold f28.inR at h; split at h <;> simp at h <;> subst h <;> rfl) (fun _ _ _ => rfl) (f28.eq K)
end Go.Proofs

namespace Go.Proofs
open Go.VM
/-! ### burrow/burrowlaw07.SigsKeys -/
noncomputable def f23.c : Code := bodyOf Try.f23
def f23.lp (_ : Nat) : Nat → Option (Hint × Summ) := fun _ => none
noncomputable def f23.tab (K : Nat) : List (Nat × Entry) := [(77, (f77.E K)), (78, (f78.E K)), (32, (f32.E K)), (44, (f44.E K)), (79, (f79.E K)), (80, (f80.E K))]
theorem f23.tabOK (K : Nat) : SpecOK Try.prog (tabSp (f23.tab K)) := tab_ok ((tab_cons (f77.ok K) (tab_cons (f78.ok K) (tab_cons (f32.ok K) (tab_cons (f44.ok K) (tab_cons (f79.ok K) (tab_cons (f80.ok K) tab_nil)))))))
theorem f23.loops (K : Nat) : LoopsOK Try.prog 81 0 (f23.lp K) f23.c := loops_ok (by
  have h : loopsIn (f23.lp K) f23.c = [] := by kernel_rfl
  rw [h]; simp)
def f23.T (K : Nat) (a0_0 : List Int) (a0_1 : List Int) (a0_2 : List Int) (a1 : List Int) (a2 : List Int) : Option (Bool) :=
  (f77.F K (a0_0, a0_1, a0_2, a1)).bind fun y1 =>
  (f77.F K (a0_0, a0_1, a0_2, a2)).bind fun y2 =>
  bif (y1.2 != 0) then
    (f78.F K ()).bind fun y3 =>
    some y3
  else
    bif (y2.2 != 0) then
      (f78.F K ()).bind fun y4 =>
      some y4
    else
      (f32.F K (a1, a2)).bind fun y5 =>
      bif (y5.2 != 0) then
        (f78.F K ()).bind fun y6 =>
        some y6
      else
        (f44.F K (y5.1, a0_1)).bind fun y7 =>
        bif (decide (y7 > 0)) then
          (f78.F K ()).bind fun y9 =>
          some y9
        else
          (f79.F K (a0_0, a0_1, a0_2, y1.1, y2.1)).bind fun y10 =>
          (f80.F K (a0_0, a0_1, a0_2, a0_2, y5.1)).bind fun y11 =>
          bif (y10.2 == 0) then
            bif (y11.2 == 0) then
              bif (eqL 4 y10.1 y11.1 && true) then
                (f78.F K ()).bind fun y15 =>
                some y15
              else
                some false
            else
              some false
          else
            some false
def f23.F (K : Nat) (x : List Int × List Int × List Int × List Int × List Int) : Option (Bool) := f23.T K x.1 x.2.1 x.2.2.1 x.2.2.2.1 x.2.2.2.2
def f23.av (x : List Int × List Int × List Int × List Int × List Int) : List VV := [.agg [.ints .u64 4 x.1, .ints .u64 4 x.2.1, .ints .u64 4 x.2.2.1], .agg [.ints .u64 4 x.2.2.2.1], .agg [.ints .u64 4 x.2.2.2.2]]
def f23.bl (_x : List Int × List Int × List Int × List Int × List Int) : List (Nat × Blk) := []
def f23.inA : VS → Option (List Int × List Int × List Int × List Int × List Int)
  | ⟨[(0, .agg [.ints .u64 4 a0_0, .ints .u64 4 a0_1, .ints .u64 4 a0_2]), (1, .agg [.ints .u64 4 a1]), (2, .agg [.ints .u64 4 a2])], [], 0⟩ => some (a0_0, a0_1, a0_2, a1, a2)
  | _ => none
def f23.o0 (y : Bool) : VS := ⟨[(0, .bool y)], [], 0⟩
def f23.des : ∀ α : Type, Bool → (VS → Option α) → Option α := (dv1 f23.o0)
def f23.out : Bool → VS := f23.o0
def f23.inR : VS → Option (Bool)
  | ⟨[(0, .bool y)], [], 0⟩ => some y
  | _ => none
noncomputable def f23.E (K : Nat) : Entry := genE 0 f23.inA (f23.F K) f23.des
theorem f23.eq (K : Nat) (x : List Int × List Int × List Int × List Int × List Int) : f23.F K x = xrun (getA tys) (tabSp (f23.tab K)) Try.f23.ntmps 0 (f23.lp K) 400 f23.c ⟨initL 0 (f23.av x), f23.bl x, 0⟩ (contF (getA tys) 0 Try.f23.results.toList f23.inR) := by kernel_rfl
theorem f23.ok (K : Nat) : EntryOK Try.prog 23 (f23.E K) :=
  gen_ok mix tys_ok (f23.tabOK K) Try.func23 (by kernel_rfl : Try.f23.body = some f23.c) (by kernel_rfl) (f23.loops K) (av := f23.av) (bl := f23.bl) (out := f23.out) (fuel := 400)
    (by intro s x h; unfold f23.inA at h; split at h <;> simp at h; subst h; rfl) (fun _ => Nat.le_of_ble_eq_true rfl)
    (by intro s y h; unfold f23.inR at h; split at h <;> simp at h <;> subst h <;> rfl) (fun _ _ _ => rfl) (f23.eq K)
end Go.Proofs
