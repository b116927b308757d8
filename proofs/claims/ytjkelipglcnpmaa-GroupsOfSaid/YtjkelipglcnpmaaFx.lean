/- Go functions: for each a Lean function with the same answers, and the proof that the call comes to them, with no condition. -/
import Derived.Test.YtjkelipglcnpmaaFl
import Derived.Test.YtjkelipglcnpmaaFd
namespace Go.Proofs
open Go.VM
/-! ### burrow/burrowref03.Word -/
noncomputable def f96.c : Code := bodyOf Try.f96
def f96.lp (_ : Nat) : Nat → Option (Hint × Summ) := fun _ => none
noncomputable def f96.tab (K : Nat) : List (Nat × Entry) := [(47, (f47.E K))]
theorem f96.tabOK (K : Nat) : SpecOK Try.prog (tabSp (f96.tab K)) := tab_ok ((tab_cons (f47.ok K) tab_nil))
theorem f96.loops (K : Nat) : LoopsOK Try.prog 8 0 (f96.lp K) f96.c := loops_ok (by
  have h : loopsIn (f96.lp K) f96.c = [] := by kernel_rfl
  rw [h]; simp)
def f96.T (K : Nat) (a0 : List Int) : Option (Bool) :=
  (f47.F K (List.getD a0 0 0)).bind fun y2 =>
  some (eqL 4 a0 y2 && true)
def f96.F (K : Nat) (x : List Int) : Option (Bool) := f96.T K x
def f96.av (x : List Int) : List VV := [.agg [.ints .u64 4 x]]
def f96.bl (_x : List Int) : List (Nat × Blk) := []
def f96.inA : VS → Option (List Int)
  | ⟨[(0, .agg [.ints .u64 4 a0])], [], 0⟩ => some a0
  | _ => none
def f96.o0 (y : Bool) : VS := ⟨[(0, .bool y)], [], 0⟩
def f96.des : ∀ α : Type, Bool → (VS → Option α) → Option α := (dv1 f96.o0)
def f96.out : Bool → VS := f96.o0
def f96.inR : VS → Option (Bool)
  | ⟨[(0, .bool y)], [], 0⟩ => some y
  | _ => none
noncomputable def f96.E (K : Nat) : Entry := genE 0 f96.inA (f96.F K) f96.des
theorem f96.eq (K : Nat) (x : List Int) : f96.F K x = xrun (getA tys) (tabSp (f96.tab K)) Try.f96.ntmps 0 (f96.lp K) 400 f96.c ⟨initL 0 (f96.av x), f96.bl x, 0⟩ (contF (getA tys) 0 Try.f96.results.toList f96.inR) := by kernel_rfl
theorem f96.ok (K : Nat) : EntryOK Try.prog 96 (f96.E K) :=
  gen_ok mix tys_ok (f96.tabOK K) Try.func96 (by kernel_rfl : Try.f96.body = some f96.c) (by kernel_rfl) (f96.loops K) (av := f96.av) (bl := f96.bl) (out := f96.out) (fuel := 400)
    (by intro s x h; unfold f96.inA at h; split at h <;> simp at h; subst h; rfl) (fun _ => Nat.le_of_ble_eq_true rfl)
    (by intro s y h; unfold f96.inR at h; split at h <;> simp at h <;> subst h <;> rfl) (fun _ _ _ => rfl) (f96.eq K)
end Go.Proofs

namespace Go.Proofs
open Go.VM
/-! ### burrow/burrowref03.down -/
noncomputable def f97.c : Code := bodyOf Try.f97
def f97.s2t (K : Nat) (rec : Nat × Nat × Int × Int × Int × Nat × List Int × List Int × List Int × Nat × List Int × List Int → Option (Nat × Nat × Int × Int × Nat × List Int × List Int × List Int × Nat × List Int × List Int)) (t0 : Nat) (t6 : Nat) (t8 : Int) (t9 : Int) (t10 : Int) (b0_0 : Nat) (b0_1 : List Int) (b2 : List Int) (b3 : List Int) (b4_0 : Nat) (b4_1 : List Int) (b6 : List Int) : Option (Nat × Nat × Int × Int × Nat × List Int × List Int × List Int × Nat × List Int × List Int) :=
  bif (decide (t10 ≥ 0)) then
    (f33.F K (b6, b6)).bind fun y4 =>
    bif decide (0 ≤ t8 ∧ t8 < ((t0 : Nat) : Int)) then
      let v5 := 0 + (Int.toNat t8)
      bif Nat.blt v5 b0_0 then
        bif decide (0 ≤ t10) then
          (f47.F K (Int.tmod (IntKind.wrap .u64 (shiftI .shr .u8 (List.getD b0_1 v5 0) t10)) 2)).bind fun y10 =>
          (f33.F K (y4.1, y10)).bind fun y11 =>
          let v12 := IntKind.wrap .i64 (2 * t9)
          bif (y4.2 == 1) then
            (f35.F K (y11.1, b2)).bind fun y13 =>
            rec (t0, t6, t8, (IntKind.wrap .i64 (v12 + 1)), (IntKind.wrap .i64 (t10 - 1)), b0_0, b0_1, b2, b3, b4_0, b4_1, y13.1)
          else
            (f45.F K (y11.1, b2)).bind fun y16 =>
            bif (decide (y16 ≥ 0)) then
              (f35.F K (y11.1, b2)).bind fun y18 =>
              rec (t0, t6, t8, (IntKind.wrap .i64 (v12 + 1)), (IntKind.wrap .i64 (t10 - 1)), b0_0, b0_1, b2, b3, b4_0, b4_1, y18.1)
            else
              rec (t0, t6, t8, v12, (IntKind.wrap .i64 (t10 - 1)), b0_0, b0_1, b2, b3, b4_0, b4_1, y11.1)
        else
          none
      else
        none
    else
      none
  else
    some (t0, t6, t8, t9, b0_0, b0_1, b2, b3, b4_0, b4_1, b6)
def f97.s2 (K : Nat) (rec : Nat × Nat × Int × Int × Int × Nat × List Int × List Int × List Int × Nat × List Int × List Int → Option (Nat × Nat × Int × Int × Nat × List Int × List Int × List Int × Nat × List Int × List Int)) (x : Nat × Nat × Int × Int × Int × Nat × List Int × List Int × List Int × Nat × List Int × List Int) : Option (Nat × Nat × Int × Int × Nat × List Int × List Int × List Int × Nat × List Int × List Int) := f97.s2t K rec x.1 x.2.1 x.2.2.1 x.2.2.2.1 x.2.2.2.2.1 x.2.2.2.2.2.1 x.2.2.2.2.2.2.1 x.2.2.2.2.2.2.2.1 x.2.2.2.2.2.2.2.2.1 x.2.2.2.2.2.2.2.2.2.1 x.2.2.2.2.2.2.2.2.2.2.1 x.2.2.2.2.2.2.2.2.2.2.2
noncomputable def f97.s2.b : Code := (findLoop 2 f97.c).getD .skip
def f97.s2.h : Hint := { lv := [0, 3, 5, 6, 7, 8, 9, 10] }
def f97.s2.ho : Hint := { lv := [0, 3, 5, 6, 7, 8, 9] }
def f97.s2.shp (x : Nat × Nat × Int × Int × Int × Nat × List Int × List Int × List Int × Nat × List Int × List Int) : VS := ⟨[(0, .vw true 0 0 x.1 1), (3, .ptr 2 0), (5, .ptr 3 0), (6, .vec 4 0 x.2.1 5), (7, .ptr 6 0), (8, .int .i64 x.2.2.1), (9, .int .i64 x.2.2.2.1), (10, .int .i64 x.2.2.2.2.1)], [(0, ([.ints .u8 x.2.2.2.2.2.1 x.2.2.2.2.2.2.1], 0, .ro)), (2, ([.ints .u64 4 x.2.2.2.2.2.2.2.1], 24, .norm)), (3, ([.ints .u64 4 x.2.2.2.2.2.2.2.2.1], 24, .norm)), (4, ([.ints .u8 x.2.2.2.2.2.2.2.2.2.1 x.2.2.2.2.2.2.2.2.2.2.1], 5, .vec 5)), (6, ([.ints .u64 4 x.2.2.2.2.2.2.2.2.2.2.2], 24, .norm))], 7⟩
def f97.s2.inX : VS → Option (Nat × Nat × Int × Int × Int × Nat × List Int × List Int × List Int × Nat × List Int × List Int)
  | ⟨[(0, .vw true 0 0 t0 1), (3, .ptr 2 0), (5, .ptr 3 0), (6, .vec 4 0 t6 5), (7, .ptr 6 0), (8, .int .i64 t8), (9, .int .i64 t9), (10, .int .i64 t10)], [(0, ([.ints .u8 b0_0 b0_1], 0, .ro)), (2, ([.ints .u64 4 b2], 24, .norm)), (3, ([.ints .u64 4 b3], 24, .norm)), (4, ([.ints .u8 b4_0 b4_1], 5, .vec 5)), (6, ([.ints .u64 4 b6], 24, .norm))], 7⟩ => some (t0, t6, t8, t9, t10, b0_0, b0_1, b2, b3, b4_0, b4_1, b6)
  | _ => none
def f97.s2.o0 (y : Nat × Nat × Int × Int × Nat × List Int × List Int × List Int × Nat × List Int × List Int) : VS := ⟨[(0, .vw true 0 0 y.1 1), (3, .ptr 2 0), (5, .ptr 3 0), (6, .vec 4 0 y.2.1 5), (7, .ptr 6 0), (8, .int .i64 y.2.2.1), (9, .int .i64 y.2.2.2.1)], [(0, ([.ints .u8 y.2.2.2.2.1 y.2.2.2.2.2.1], 0, .ro)), (2, ([.ints .u64 4 y.2.2.2.2.2.2.1], 24, .norm)), (3, ([.ints .u64 4 y.2.2.2.2.2.2.2.1], 24, .norm)), (4, ([.ints .u8 y.2.2.2.2.2.2.2.2.1 y.2.2.2.2.2.2.2.2.2.1], 5, .vec 5)), (6, ([.ints .u64 4 y.2.2.2.2.2.2.2.2.2.2], 24, .norm))], 7⟩
def f97.s2.des : ∀ α : Type, (Nat × Nat × Int × Int × Nat × List Int × List Int × List Int × Nat × List Int × List Int) → (Ex → VS → Option α) → Option α := (des1 (.exit 2) f97.s2.o0)
def f97.s2.out : Nat × Nat × Int × Int × Nat × List Int × List Int × List Int × Nat × List Int × List Int → Ex × VS := (fun y => (.exit 2, f97.s2.o0 y))
theorem f97.s2.desOK : ∀ α y (k : Ex → VS → Option α), f97.s2.des α y k = k (f97.s2.out y).1 (f97.s2.out y).2 := (fun _ _ _ => rfl)
def f97.s2.inY : Ex → VS → Option (Nat × Nat × Int × Int × Nat × List Int × List Int × List Int × Nat × List Int × List Int)
  | .exit 2, ⟨[(0, .vw true 0 0 t0 1), (3, .ptr 2 0), (5, .ptr 3 0), (6, .vec 4 0 t6 5), (7, .ptr 6 0), (8, .int .i64 t8), (9, .int .i64 t9)], [(0, ([.ints .u8 b0_0 b0_1], 0, .ro)), (2, ([.ints .u64 4 b2], 24, .norm)), (3, ([.ints .u64 4 b3], 24, .norm)), (4, ([.ints .u8 b4_0 b4_1], 5, .vec 5)), (6, ([.ints .u64 4 b6], 24, .norm))], 7⟩ => some (t0, t6, t8, t9, b0_0, b0_1, b2, b3, b4_0, b4_1, b6)
  | _, _ => none
def f97.s0t (K : Nat) (rec : Nat × Nat × Int × Nat × List Int × List Int × List Int × Nat × List Int × List Int → Option (Nat × Nat × List Int × List Int × Nat × List Int × List Int)) (t0 : Nat) (t6 : Nat) (t8 : Int) (b0_0 : Nat) (b0_1 : List Int) (b2 : List Int) (b3 : List Int) (b4_0 : Nat) (b4_1 : List Int) (b6 : List Int) : Option (Nat × Nat × List Int × List Int × Nat × List Int × List Int) :=
  bif (decide (t8 < ((t0 : Nat) : Int))) then
    (iter (f97.s2 K) K (t0, t6, t8, 0, 7, b0_0, b0_1, b2, b3, b4_0, b4_1, b6)).bind fun y22 =>
    bif (Nat.ble y22.2.1 y22.2.2.2.2.2.2.2.2.1 && (fitB ((y22.2.1 + 1) * 1))) then
      rec (y22.1, (y22.2.1 + 1), (IntKind.wrap .i64 (y22.2.2.1 + 1)), y22.2.2.2.2.1, y22.2.2.2.2.2.1, y22.2.2.2.2.2.2.1, y22.2.2.2.2.2.2.2.1, (y22.2.1 + 1), ((padT y22.2.2.2.2.2.2.2.2.2.1 y22.2.1) ++ [(IntKind.wrap .u8 y22.2.2.2.1)]), y22.2.2.2.2.2.2.2.2.2.2)
    else
      none
  else
    some (t6, b0_0, b0_1, b3, b4_0, b4_1, b6)
def f97.s0 (K : Nat) (rec : Nat × Nat × Int × Nat × List Int × List Int × List Int × Nat × List Int × List Int → Option (Nat × Nat × List Int × List Int × Nat × List Int × List Int)) (x : Nat × Nat × Int × Nat × List Int × List Int × List Int × Nat × List Int × List Int) : Option (Nat × Nat × List Int × List Int × Nat × List Int × List Int) := f97.s0t K rec x.1 x.2.1 x.2.2.1 x.2.2.2.1 x.2.2.2.2.1 x.2.2.2.2.2.1 x.2.2.2.2.2.2.1 x.2.2.2.2.2.2.2.1 x.2.2.2.2.2.2.2.2.1 x.2.2.2.2.2.2.2.2.2
noncomputable def f97.s0.b : Code := (findLoop 0 f97.c).getD .skip
def f97.s0.h : Hint := { lv := [0, 3, 5, 6, 7, 8], co := [(6, 5, [.ints .u8 0 []])] }
def f97.s0.ho : Hint := { lv := [5, 6, 7] }
def f97.s0.shp (x : Nat × Nat × Int × Nat × List Int × List Int × List Int × Nat × List Int × List Int) : VS := ⟨[(0, .vw true 0 0 x.1 1), (3, .ptr 2 0), (5, .ptr 3 0), (6, .vec 4 0 x.2.1 5), (7, .ptr 6 0), (8, .int .i64 x.2.2.1)], [(0, ([.ints .u8 x.2.2.2.1 x.2.2.2.2.1], 0, .ro)), (2, ([.ints .u64 4 x.2.2.2.2.2.1], 24, .norm)), (3, ([.ints .u64 4 x.2.2.2.2.2.2.1], 24, .norm)), (4, ([.ints .u8 x.2.2.2.2.2.2.2.1 x.2.2.2.2.2.2.2.2.1], 5, .vec 5)), (6, ([.ints .u64 4 x.2.2.2.2.2.2.2.2.2], 24, .norm))], 7⟩
def f97.s0.inX : VS → Option (Nat × Nat × Int × Nat × List Int × List Int × List Int × Nat × List Int × List Int)
  | ⟨[(0, .vw true 0 0 t0 1), (3, .ptr 2 0), (5, .ptr 3 0), (6, .vec 4 0 t6 5), (7, .ptr 6 0), (8, .int .i64 t8)], [(0, ([.ints .u8 b0_0 b0_1], 0, .ro)), (2, ([.ints .u64 4 b2], 24, .norm)), (3, ([.ints .u64 4 b3], 24, .norm)), (4, ([.ints .u8 b4_0 b4_1], 5, .vec 5)), (6, ([.ints .u64 4 b6], 24, .norm))], 7⟩ => some (t0, t6, t8, b0_0, b0_1, b2, b3, b4_0, b4_1, b6)
  | _ => none
def f97.s0.o0 (y : Nat × Nat × List Int × List Int × Nat × List Int × List Int) : VS := ⟨[(5, .ptr 2 0), (6, .vec 3 0 y.1 4), (7, .ptr 5 0)], [(0, ([.ints .u8 y.2.1 y.2.2.1], 0, .ro)), (2, ([.ints .u64 4 y.2.2.2.1], 24, .norm)), (3, ([.ints .u8 y.2.2.2.2.1 y.2.2.2.2.2.1], 5, .vec 4)), (5, ([.ints .u64 4 y.2.2.2.2.2.2], 24, .norm))], 6⟩
def f97.s0.des : ∀ α : Type, (Nat × Nat × List Int × List Int × Nat × List Int × List Int) → (Ex → VS → Option α) → Option α := (des1 (.exit 0) f97.s0.o0)
def f97.s0.out : Nat × Nat × List Int × List Int × Nat × List Int × List Int → Ex × VS := (fun y => (.exit 0, f97.s0.o0 y))
theorem f97.s0.desOK : ∀ α y (k : Ex → VS → Option α), f97.s0.des α y k = k (f97.s0.out y).1 (f97.s0.out y).2 := (fun _ _ _ => rfl)
def f97.s0.inY : Ex → VS → Option (Nat × Nat × List Int × List Int × Nat × List Int × List Int)
  | .exit 0, ⟨[(5, .ptr 2 0), (6, .vec 3 0 t6 4), (7, .ptr 5 0)], [(0, ([.ints .u8 b0_0 b0_1], 0, .ro)), (2, ([.ints .u64 4 b2], 24, .norm)), (3, ([.ints .u8 b3_0 b3_1], 5, .vec 4)), (5, ([.ints .u64 4 b5], 24, .norm))], 6⟩ => some (t6, b0_0, b0_1, b2, b3_0, b3_1, b5)
  | _, _ => none
def f97.lp (K : Nat) : Nat → Option (Hint × Summ) := tabLp [(2, f97.s2.h, summOf (iter (f97.s2 K) K) f97.s2.inX f97.s2.des), (0, f97.s0.h, summOf (iter (f97.s0 K) K) f97.s0.inX f97.s0.des)]
noncomputable def f97.tab (K : Nat) : List (Nat × Entry) := [(33, (f33.E K)), (47, (f47.E K)), (35, (f35.E K)), (45, (f45.E K))]
theorem f97.tabOK (K : Nat) : SpecOK Try.prog (tabSp (f97.tab K)) := tab_ok ((tab_cons (f33.ok K) (tab_cons (f47.ok K) (tab_cons (f35.ok K) (tab_cons (f45.ok K) tab_nil)))))
theorem f97.s2.eq (K : Nat) (rec : Nat × Nat × Int × Int × Int × Nat × List Int × List Int × List Int × Nat × List Int × List Int → Option (Nat × Nat × Int × Int × Nat × List Int × List Int × List Int × Nat × List Int × List Int)) (x : Nat × Nat × Int × Int × Int × Nat × List Int × List Int × List Int × Nat × List Int × List Int) : f97.s2 K rec x = roundL (getA tys) (tabSp (f97.tab K)) 69 2 (f97.lp K) 400 f97.s2.b f97.s2.h f97.s2.ho f97.s2.shp f97.s2.inX f97.s2.inY rec x := by kernel_rfl
theorem f97.s2.lok (K : Nat) : LoopsOK Try.prog 69 2 (f97.lp K) f97.s2.b := loops_ok (by
  have h : loopsIn (f97.lp K) f97.s2.b = [] := by kernel_rfl
  rw [h]; simp)
theorem f97.s2.ok (K : Nat) : SummOK Try.prog 69 2 (summOf (iter (f97.s2 K) K) f97.s2.inX f97.s2.des) f97.s2.b :=
  loop_ok mix tys_ok (f97.tabOK K) (h := f97.s2.h) (ho := f97.s2.ho) (shp := f97.s2.shp) (inX := f97.s2.inX) (des := f97.s2.des) (out := f97.s2.out) (inY := f97.s2.inY) (fuel := 400)
    (by intro st x h; unfold f97.s2.inX at h; split at h <;> simp at h; subst h; rfl)
    (by intro e st y h; unfold f97.s2.inY at h; split at h <;> simp at h <;> subst h <;> rfl)
    f97.s2.desOK (f97.s2.lok K) (f97.s2 K) (f97.s2.eq K) K
theorem f97.s0.eq (K : Nat) (rec : Nat × Nat × Int × Nat × List Int × List Int × List Int × Nat × List Int × List Int → Option (Nat × Nat × List Int × List Int × Nat × List Int × List Int)) (x : Nat × Nat × Int × Nat × List Int × List Int × List Int × Nat × List Int × List Int) : f97.s0 K rec x = roundL (getA tys) (tabSp (f97.tab K)) 69 2 (f97.lp K) 400 f97.s0.b f97.s0.h f97.s0.ho f97.s0.shp f97.s0.inX f97.s0.inY rec x := by kernel_rfl
theorem f97.s0.lok (K : Nat) : LoopsOK Try.prog 69 2 (f97.lp K) f97.s0.b := loops_ok (by
  have h : loopsIn (f97.lp K) f97.s0.b = [(2, f97.s2.b)] := by kernel_rfl
  rw [h]
  intro p hp
  simp only [List.mem_cons, List.not_mem_nil, or_false] at hp
  rcases hp with rfl
  · exact ⟨_, rfl, (f97.s2.ok K)⟩)
theorem f97.s0.ok (K : Nat) : SummOK Try.prog 69 2 (summOf (iter (f97.s0 K) K) f97.s0.inX f97.s0.des) f97.s0.b :=
  loop_ok mix tys_ok (f97.tabOK K) (h := f97.s0.h) (ho := f97.s0.ho) (shp := f97.s0.shp) (inX := f97.s0.inX) (des := f97.s0.des) (out := f97.s0.out) (inY := f97.s0.inY) (fuel := 400)
    (by intro st x h; unfold f97.s0.inX at h; split at h <;> simp at h; subst h; rfl)
    (by intro e st y h; unfold f97.s0.inY at h; split at h <;> simp at h <;> subst h <;> rfl)
    f97.s0.desOK (f97.s0.lok K) (f97.s0 K) (f97.s0.eq K) K
theorem f97.loops (K : Nat) : LoopsOK Try.prog 69 2 (f97.lp K) f97.c := loops_ok (by
  have h : loopsIn (f97.lp K) f97.c = [(0, f97.s0.b), (2, f97.s2.b)] := by kernel_rfl
  rw [h]
  intro p hp
  simp only [List.mem_cons, List.not_mem_nil, or_false] at hp
  rcases hp with rfl | rfl
  · exact ⟨_, rfl, (f97.s0.ok K)⟩
  · exact ⟨_, rfl, (f97.s2.ok K)⟩)
def f97.T (K : Nat) (a0 : Nat) (a1 : List Int) (m0_0 : Nat) (m0_1 : List Int) : Option (Nat × List Int × Nat × List Int × Nat × List Int) :=
  (iter (f97.s0 K) K (a0, 0, 0, m0_0, m0_1, a1, [0, 0, 0, 0], 0, [], [0, 0, 0, 0])).bind fun y26 =>
  some (y26.1, y26.2.2.2.2.2.2, y26.2.1, y26.2.2.1, y26.2.2.2.2.1, y26.2.2.2.2.2.1)
def f97.F (K : Nat) (x : Nat × List Int × Nat × List Int) : Option (Nat × List Int × Nat × List Int × Nat × List Int) := f97.T K x.1 x.2.1 x.2.2.1 x.2.2.2
def f97.av (x : Nat × List Int × Nat × List Int) : List VV := [.vw true 0 0 x.1 1, .agg [.ints .u64 4 x.2.1]]
def f97.bl (x : Nat × List Int × Nat × List Int) : List (Nat × Blk) := [(0, ([.ints .u8 x.2.2.1 x.2.2.2], 0, .ro))]
def f97.inA : VS → Option (Nat × List Int × Nat × List Int)
  | ⟨[(0, .vw true 0 0 a0 1), (1, .agg [.ints .u64 4 a1])], [(0, ([.ints .u8 m0_0 m0_1], 0, .ro))], 2⟩ => some (a0, a1, m0_0, m0_1)
  | _ => none
def f97.o0 (y : Nat × List Int × Nat × List Int × Nat × List Int) : VS := ⟨[(0, .tup [.vec 2 0 y.1 3, .agg [.ints .u64 4 y.2.1]])], [(0, ([.ints .u8 y.2.2.1 y.2.2.2.1], 0, .ro)), (2, ([.ints .u8 y.2.2.2.2.1 y.2.2.2.2.2], 5, .vec 3))], 4⟩
def f97.des : ∀ α : Type, (Nat × List Int × Nat × List Int × Nat × List Int) → (VS → Option α) → Option α := (dv1 f97.o0)
def f97.out : Nat × List Int × Nat × List Int × Nat × List Int → VS := f97.o0
def f97.inR : VS → Option (Nat × List Int × Nat × List Int × Nat × List Int)
  | ⟨[(0, .tup [.vec 2 0 y_0 3, .agg [.ints .u64 4 y_1]])], [(0, ([.ints .u8 z0_0 z0_1], 0, .ro)), (2, ([.ints .u8 z2_0 z2_1], 5, .vec 3))], 4⟩ => some (y_0, y_1, z0_0, z0_1, z2_0, z2_1)
  | _ => none
noncomputable def f97.E (K : Nat) : Entry := genE 2 f97.inA (f97.F K) f97.des
theorem f97.eq (K : Nat) (x : Nat × List Int × Nat × List Int) : f97.F K x = xrun (getA tys) (tabSp (f97.tab K)) Try.f97.ntmps 2 (f97.lp K) 400 f97.c ⟨initL 0 (f97.av x), f97.bl x, 2⟩ (contF (getA tys) 2 Try.f97.results.toList f97.inR) := by kernel_rfl
theorem f97.ok (K : Nat) : EntryOK Try.prog 97 (f97.E K) :=
  gen_ok mix tys_ok (f97.tabOK K) Try.func97 (by kernel_rfl : Try.f97.body = some f97.c) (by kernel_rfl) (f97.loops K) (av := f97.av) (bl := f97.bl) (out := f97.out) (fuel := 400)
    (by intro s x h; unfold f97.inA at h; split at h <;> simp at h; subst h; rfl) (fun _ => Nat.le_of_ble_eq_true rfl)
    (by intro s y h; unfold f97.inR at h; split at h <;> simp at h <;> subst h <;> rfl) (fun _ _ _ => rfl) (f97.eq K)
end Go.Proofs

namespace Go.Proofs
open Go.VM
/-! ### burrow/burrowref01.Row -/
noncomputable def f120.c : Code := bodyOf Try.f120
def f120.lp (_ : Nat) : Nat → Option (Hint × Summ) := fun _ => none
def f120.T (_K : Nat) (rec : Int × Int → Option (Unit ⊕ (Nat × Nat × List Int))) (a0 : Int) (a1 : Int) : Option (Unit ⊕ (Nat × Nat × List Int)) :=
  bif (decide (a1 < 1)) then
    some (.inl ())
  else
    (rec ((IntKind.wrap .u64 (Int.tdiv a0 256)), (IntKind.wrap .i64 (a1 - 1)))).bind fun y4 =>
    alt (fun y5 =>
      some (.inr (1, 1, [(IntKind.wrap .u8 (Int.tmod a0 256))]))) (fun y6 =>
      bif (Nat.ble y6.1 y6.2.1 && (fitB ((y6.1 + 1) * 1))) then
        some (.inr ((y6.1 + 1), (y6.1 + 1), ((padT y6.2.2 y6.1) ++ [(IntKind.wrap .u8 (Int.tmod a0 256))])))
      else
        none) y4
def f120.R (K : Nat) (rec : Int × Int → Option (Unit ⊕ (Nat × Nat × List Int))) (x : Int × Int) : Option (Unit ⊕ (Nat × Nat × List Int)) := f120.T K rec x.1 x.2
def f120.F : Nat → (Int × Int) → Option (Unit ⊕ (Nat × Nat × List Int)) := recF f120.R
def f120.av (x : Int × Int) : List VV := [.int .u64 x.1, .int .i64 x.2]
def f120.bl (_x : Int × Int) : List (Nat × Blk) := []
def f120.inA : VS → Option (Int × Int)
  | ⟨[(0, .int .u64 a0), (1, .int .i64 a1)], [], 0⟩ => some (a0, a1)
  | _ => none
def f120.o0 (_y : Unit) : VS := ⟨[(0, .raw (.slice none 0 0))], [], 0⟩
def f120.o1 (y : Nat × Nat × List Int) : VS := ⟨[(0, .vec 0 0 y.1 1)], [(0, ([.ints .u8 y.2.1 y.2.2], 5, .vec 1))], 2⟩
def f120.des : ∀ α : Type, (Unit ⊕ (Nat × Nat × List Int)) → (VS → Option α) → Option α := (dvA (dv1 f120.o0) (dv1 f120.o1))
def f120.out : Unit ⊕ (Nat × Nat × List Int) → VS := (alt f120.o0 f120.o1)
def f120.inR : VS → Option (Unit ⊕ (Nat × Nat × List Int))
  | ⟨[(0, .raw (.slice none 0 0))], [], 0⟩ => some (.inl ())
  | ⟨[(0, .vec 0 0 y 1)], [(0, ([.ints .u8 z0_0 z0_1], 5, .vec 1))], 2⟩ => some (.inr (y, z0_0, z0_1))
  | _ => none
noncomputable def f120.E (K : Nat) : Entry := genE 0 f120.inA (f120.F K) f120.des
noncomputable def f120.tab (K : Nat) : List (Nat × Entry) := [(120, (f120.E K))]
theorem f120.tabOK (K : Nat) (h : EntryOK Try.prog 120 (f120.E K)) : SpecOK Try.prog (tabSp (f120.tab K)) := tab_ok ((tab_cons h tab_nil))
theorem f120.loops (K : Nat) : LoopsOK Try.prog 17 0 (f120.lp K) f120.c := loops_ok (by
  have h : loopsIn (f120.lp K) f120.c = [] := by kernel_rfl
  rw [h]; simp)
theorem f120.eq (K : Nat) (x : Int × Int) : f120.F (K + 1) x = xrun (getA tys) (tabSp (f120.tab K)) Try.f120.ntmps 0 (f120.lp K) 400 f120.c ⟨initL 0 (f120.av x), f120.bl x, 0⟩ (contF (getA tys) 0 Try.f120.results.toList f120.inR) := by kernel_rfl
theorem f120.ok : ∀ K : Nat, EntryOK Try.prog 120 (f120.E K)
  | 0 => gen_none (fun _ => rfl)
  | K + 1 =>
  gen_ok mix tys_ok (f120.tabOK K (f120.ok K)) Try.func120 (by kernel_rfl : Try.f120.body = some f120.c) (by kernel_rfl) (f120.loops K) (av := f120.av) (bl := f120.bl) (out := f120.out) (fuel := 400)
    (by intro s x h; unfold f120.inA at h; split at h <;> simp at h; subst h; rfl) (fun _ => Nat.le_of_ble_eq_true rfl)
    (by intro s y h; unfold f120.inR at h; split at h <;> simp at h <;> subst h <;> rfl) (dvA_ok (fun _ _ _ => rfl) (fun _ _ _ => rfl)) (f120.eq K)
end Go.Proofs

namespace Go.Proofs
open Go.VM
/-! ### burrow/burrowref01.behind -/
noncomputable def f119.c : Code := bodyOf Try.f119
def f119.lp (_ : Nat) : Nat → Option (Hint × Summ) := fun _ => none
noncomputable def f119.tab (_K : Nat) : List (Nat × Entry) := []
theorem f119.tabOK (K : Nat) : SpecOK Try.prog (tabSp (f119.tab K)) := tab_ok ( tab_nil)
theorem f119.loops (K : Nat) : LoopsOK Try.prog 9 4 (f119.lp K) f119.c := loops_ok (by
  have h : loopsIn (f119.lp K) f119.c = [] := by kernel_rfl
  rw [h]; simp)
def f119.T (_K : Nat) (a0 : Nat) (a1 : Nat) (m0_0 : Nat) (m0_1 : List Int) (m2_0 : Nat) (m2_1 : List Int) : Option (Nat × Nat × List Int × Nat × List Int × Nat × List Int) :=
  bif (Nat.ble (0 + a0) m0_0 && (fitB (a0 * 1))) then
    bif ((Nat.ble (0 + a1) m2_0 && (Nat.ble a0 a0)) && (fitB ((a0 + a1) * 1))) then
      some ((a0 + a1), m0_0, m0_1, m2_0, m2_1, (a0 + a1), ((padT (subI m0_1 0 a0) a0) ++ (padT (subI m2_1 0 a1) a1)))
    else
      none
  else
    none
def f119.F (K : Nat) (x : Nat × Nat × Nat × List Int × Nat × List Int) : Option (Nat × Nat × List Int × Nat × List Int × Nat × List Int) := f119.T K x.1 x.2.1 x.2.2.1 x.2.2.2.1 x.2.2.2.2.1 x.2.2.2.2.2
def f119.av (x : Nat × Nat × Nat × List Int × Nat × List Int) : List VV := [.vw true 0 0 x.1 1, .vw true 2 0 x.2.1 3]
def f119.bl (x : Nat × Nat × Nat × List Int × Nat × List Int) : List (Nat × Blk) := [(0, ([.ints .u8 x.2.2.1 x.2.2.2.1], 0, .ro)), (2, ([.ints .u8 x.2.2.2.2.1 x.2.2.2.2.2], 0, .ro))]
def f119.inA : VS → Option (Nat × Nat × Nat × List Int × Nat × List Int)
  | ⟨[(0, .vw true 0 0 a0 1), (1, .vw true 2 0 a1 3)], [(0, ([.ints .u8 m0_0 m0_1], 0, .ro)), (2, ([.ints .u8 m2_0 m2_1], 0, .ro))], 4⟩ => some (a0, a1, m0_0, m0_1, m2_0, m2_1)
  | _ => none
def f119.o0 (y : Nat × Nat × List Int × Nat × List Int × Nat × List Int) : VS := ⟨[(0, .vec 4 0 y.1 5)], [(0, ([.ints .u8 y.2.1 y.2.2.1], 0, .ro)), (2, ([.ints .u8 y.2.2.2.1 y.2.2.2.2.1], 0, .ro)), (4, ([.ints .u8 y.2.2.2.2.2.1 y.2.2.2.2.2.2], 5, .vec 5))], 6⟩
def f119.des : ∀ α : Type, (Nat × Nat × List Int × Nat × List Int × Nat × List Int) → (VS → Option α) → Option α := (dv1 f119.o0)
def f119.out : Nat × Nat × List Int × Nat × List Int × Nat × List Int → VS := f119.o0
def f119.inR : VS → Option (Nat × Nat × List Int × Nat × List Int × Nat × List Int)
  | ⟨[(0, .vec 4 0 y 5)], [(0, ([.ints .u8 z0_0 z0_1], 0, .ro)), (2, ([.ints .u8 z2_0 z2_1], 0, .ro)), (4, ([.ints .u8 z4_0 z4_1], 5, .vec 5))], 6⟩ => some (y, z0_0, z0_1, z2_0, z2_1, z4_0, z4_1)
  | _ => none
noncomputable def f119.E (K : Nat) : Entry := genE 4 f119.inA (f119.F K) f119.des
theorem f119.eq (K : Nat) (x : Nat × Nat × Nat × List Int × Nat × List Int) : f119.F K x = xrun (getA tys) (tabSp (f119.tab K)) Try.f119.ntmps 4 (f119.lp K) 400 f119.c ⟨initL 0 (f119.av x), f119.bl x, 4⟩ (contF (getA tys) 4 Try.f119.results.toList f119.inR) := by kernel_rfl
theorem f119.ok (K : Nat) : EntryOK Try.prog 119 (f119.E K) :=
  gen_ok mix tys_ok (f119.tabOK K) Try.func119 (by kernel_rfl : Try.f119.body = some f119.c) (by kernel_rfl) (f119.loops K) (av := f119.av) (bl := f119.bl) (out := f119.out) (fuel := 400)
    (by intro s x h; unfold f119.inA at h; split at h <;> simp at h; subst h; rfl) (fun _ => Nat.le_of_ble_eq_true rfl)
    (by intro s y h; unfold f119.inR at h; split at h <;> simp at h <;> subst h <;> rfl) (fun _ _ _ => rfl) (f119.eq K)
end Go.Proofs

namespace Go.Proofs
open Go.VM
/-! ### burrow/burrowref01.PutLong -/
noncomputable def f98.c : Code := bodyOf Try.f98
def f98.s0t (K : Nat) (rec : Nat × Nat × Int × Nat × List Int × List Int × Nat × List Int → Option (Nat × Nat × Nat × List Int × Nat × List Int)) (t0 : Nat) (t5 : Nat) (t6 : Int) (b0_0 : Nat) (b0_1 : List Int) (b2 : List Int) (b3_0 : Nat) (b3_1 : List Int) : Option (Nat × Nat × Nat × List Int × Nat × List Int) :=
  bif (decide (t6 < 4)) then
    bif decide (0 ≤ t6 ∧ t6 < 4) then
      (f120.F K ((List.getD b2 (Int.toNat t6) 0), 8)).bind fun y4 =>
      alt (fun y5 =>
        bif ((Nat.ble (0 + t5) b3_0 && true) && true) then
          (f119.F K (0, t5, 0, [], t5, (subI b3_1 0 t5))).bind fun y7 =>
          rec (t0, y7.1, (IntKind.wrap .i64 (t6 + 1)), b0_0, b0_1, b2, y7.2.2.2.2.2.1, y7.2.2.2.2.2.2)
        else
          none) (fun y6 =>
        bif ((Nat.ble (0 + y6.1) y6.2.1 && true) && ((Nat.ble (0 + t5) b3_0 && true) && true)) then
          (f119.F K (y6.1, t5, y6.1, (subI y6.2.2 0 y6.1), t5, (subI b3_1 0 t5))).bind fun y9 =>
          rec (t0, y9.1, (IntKind.wrap .i64 (t6 + 1)), b0_0, b0_1, b2, y9.2.2.2.2.2.1, y9.2.2.2.2.2.2)
        else
          none) y4
    else
      none
  else
    some (t0, t5, b0_0, b0_1, b3_0, b3_1)
def f98.s0 (K : Nat) (rec : Nat × Nat × Int × Nat × List Int × List Int × Nat × List Int → Option (Nat × Nat × Nat × List Int × Nat × List Int)) (x : Nat × Nat × Int × Nat × List Int × List Int × Nat × List Int) : Option (Nat × Nat × Nat × List Int × Nat × List Int) := f98.s0t K rec x.1 x.2.1 x.2.2.1 x.2.2.2.1 x.2.2.2.2.1 x.2.2.2.2.2.1 x.2.2.2.2.2.2.1 x.2.2.2.2.2.2.2
noncomputable def f98.s0.b : Code := (findLoop 0 f98.c).getD .skip
def f98.s0.h : Hint := { lv := [0, 3, 5, 6], co := [(5, 5, [.ints .u8 0 []])] }
def f98.s0.ho : Hint := { lv := [0, 5] }
def f98.s0.shp (x : Nat × Nat × Int × Nat × List Int × List Int × Nat × List Int) : VS := ⟨[(0, .vw true 0 0 x.1 1), (3, .ptr 2 0), (5, .vec 3 0 x.2.1 4), (6, .int .i64 x.2.2.1)], [(0, ([.ints .u8 x.2.2.2.1 x.2.2.2.2.1], 0, .ro)), (2, ([.ints .u64 4 x.2.2.2.2.2.1], 24, .norm)), (3, ([.ints .u8 x.2.2.2.2.2.2.1 x.2.2.2.2.2.2.2], 5, .vec 4))], 5⟩
def f98.s0.inX : VS → Option (Nat × Nat × Int × Nat × List Int × List Int × Nat × List Int)
  | ⟨[(0, .vw true 0 0 t0 1), (3, .ptr 2 0), (5, .vec 3 0 t5 4), (6, .int .i64 t6)], [(0, ([.ints .u8 b0_0 b0_1], 0, .ro)), (2, ([.ints .u64 4 b2], 24, .norm)), (3, ([.ints .u8 b3_0 b3_1], 5, .vec 4))], 5⟩ => some (t0, t5, t6, b0_0, b0_1, b2, b3_0, b3_1)
  | _ => none
def f98.s0.o0 (y : Nat × Nat × Nat × List Int × Nat × List Int) : VS := ⟨[(0, .vw true 0 0 y.1 1), (5, .vec 2 0 y.2.1 3)], [(0, ([.ints .u8 y.2.2.1 y.2.2.2.1], 0, .ro)), (2, ([.ints .u8 y.2.2.2.2.1 y.2.2.2.2.2], 5, .vec 3))], 4⟩
def f98.s0.des : ∀ α : Type, (Nat × Nat × Nat × List Int × Nat × List Int) → (Ex → VS → Option α) → Option α := (des1 (.exit 0) f98.s0.o0)
def f98.s0.out : Nat × Nat × Nat × List Int × Nat × List Int → Ex × VS := (fun y => (.exit 0, f98.s0.o0 y))
theorem f98.s0.desOK : ∀ α y (k : Ex → VS → Option α), f98.s0.des α y k = k (f98.s0.out y).1 (f98.s0.out y).2 := (fun _ _ _ => rfl)
def f98.s0.inY : Ex → VS → Option (Nat × Nat × Nat × List Int × Nat × List Int)
  | .exit 0, ⟨[(0, .vw true 0 0 t0 1), (5, .vec 2 0 t5 3)], [(0, ([.ints .u8 b0_0 b0_1], 0, .ro)), (2, ([.ints .u8 b2_0 b2_1], 5, .vec 3))], 4⟩ => some (t0, t5, b0_0, b0_1, b2_0, b2_1)
  | _, _ => none
def f98.lp (K : Nat) : Nat → Option (Hint × Summ) := tabLp [(0, f98.s0.h, summOf (iter (f98.s0 K) K) f98.s0.inX f98.s0.des)]
noncomputable def f98.tab (K : Nat) : List (Nat × Entry) := [(120, (f120.E K)), (119, (viewE [(0, .u8), (1, .u8)] (f119.E K)))]
theorem f98.tabOK (K : Nat) : SpecOK Try.prog (tabSp (f98.tab K)) := tab_ok ((tab_cons (f120.ok K) (tab_cons (view_ok (f119.ok K)) tab_nil)))
theorem f98.s0.eq (K : Nat) (rec : Nat × Nat × Int × Nat × List Int × List Int × Nat × List Int → Option (Nat × Nat × Nat × List Int × Nat × List Int)) (x : Nat × Nat × Int × Nat × List Int × List Int × Nat × List Int) : f98.s0 K rec x = roundL (getA tys) (tabSp (f98.tab K)) 20 2 (f98.lp K) 400 f98.s0.b f98.s0.h f98.s0.ho f98.s0.shp f98.s0.inX f98.s0.inY rec x := by kernel_rfl
theorem f98.s0.lok (K : Nat) : LoopsOK Try.prog 20 2 (f98.lp K) f98.s0.b := loops_ok (by
  have h : loopsIn (f98.lp K) f98.s0.b = [] := by kernel_rfl
  rw [h]; simp)
theorem f98.s0.ok (K : Nat) : SummOK Try.prog 20 2 (summOf (iter (f98.s0 K) K) f98.s0.inX f98.s0.des) f98.s0.b :=
  loop_ok mix tys_ok (f98.tabOK K) (h := f98.s0.h) (ho := f98.s0.ho) (shp := f98.s0.shp) (inX := f98.s0.inX) (des := f98.s0.des) (out := f98.s0.out) (inY := f98.s0.inY) (fuel := 400)
    (by intro st x h; unfold f98.s0.inX at h; split at h <;> simp at h; subst h; rfl)
    (by intro e st y h; unfold f98.s0.inY at h; split at h <;> simp at h <;> subst h <;> rfl)
    f98.s0.desOK (f98.s0.lok K) (f98.s0 K) (f98.s0.eq K) K
theorem f98.loops (K : Nat) : LoopsOK Try.prog 20 2 (f98.lp K) f98.c := loops_ok (by
  have h : loopsIn (f98.lp K) f98.c = [(0, f98.s0.b)] := by kernel_rfl
  rw [h]
  intro p hp
  simp only [List.mem_cons, List.not_mem_nil, or_false] at hp
  rcases hp with rfl
  · exact ⟨_, rfl, (f98.s0.ok K)⟩)
def f98.T (K : Nat) (a0 : Nat) (a1 : List Int) (m0_0 : Nat) (m0_1 : List Int) : Option (Nat × Nat × List Int × Nat × List Int) :=
  (iter (f98.s0 K) K (a0, 0, 0, m0_0, m0_1, a1, 0, [])).bind fun y11 =>
  bif ((Nat.ble (0 + y11.1) y11.2.2.1 && true) && ((Nat.ble (0 + y11.2.1) y11.2.2.2.2.1 && true) && true)) then
    (f119.F K (y11.1, y11.2.1, y11.1, (subI y11.2.2.2.1 0 y11.1), y11.2.1, (subI y11.2.2.2.2.2 0 y11.2.1))).bind fun y12 =>
    some (y12.1, y11.2.2.1, y11.2.2.2.1, y12.2.2.2.2.2.1, y12.2.2.2.2.2.2)
  else
    none
def f98.F (K : Nat) (x : Nat × List Int × Nat × List Int) : Option (Nat × Nat × List Int × Nat × List Int) := f98.T K x.1 x.2.1 x.2.2.1 x.2.2.2
def f98.av (x : Nat × List Int × Nat × List Int) : List VV := [.vw true 0 0 x.1 1, .agg [.ints .u64 4 x.2.1]]
def f98.bl (x : Nat × List Int × Nat × List Int) : List (Nat × Blk) := [(0, ([.ints .u8 x.2.2.1 x.2.2.2], 0, .ro))]
def f98.inA : VS → Option (Nat × List Int × Nat × List Int)
  | ⟨[(0, .vw true 0 0 a0 1), (1, .agg [.ints .u64 4 a1])], [(0, ([.ints .u8 m0_0 m0_1], 0, .ro))], 2⟩ => some (a0, a1, m0_0, m0_1)
  | _ => none
def f98.o0 (y : Nat × Nat × List Int × Nat × List Int) : VS := ⟨[(0, .vec 2 0 y.1 3)], [(0, ([.ints .u8 y.2.1 y.2.2.1], 0, .ro)), (2, ([.ints .u8 y.2.2.2.1 y.2.2.2.2], 5, .vec 3))], 4⟩
def f98.des : ∀ α : Type, (Nat × Nat × List Int × Nat × List Int) → (VS → Option α) → Option α := (dv1 f98.o0)
def f98.out : Nat × Nat × List Int × Nat × List Int → VS := f98.o0
def f98.inR : VS → Option (Nat × Nat × List Int × Nat × List Int)
  | ⟨[(0, .vec 2 0 y 3)], [(0, ([.ints .u8 z0_0 z0_1], 0, .ro)), (2, ([.ints .u8 z2_0 z2_1], 5, .vec 3))], 4⟩ => some (y, z0_0, z0_1, z2_0, z2_1)
  | _ => none
noncomputable def f98.E (K : Nat) : Entry := genE 2 f98.inA (f98.F K) f98.des
theorem f98.eq (K : Nat) (x : Nat × List Int × Nat × List Int) : f98.F K x = xrun (getA tys) (tabSp (f98.tab K)) Try.f98.ntmps 2 (f98.lp K) 400 f98.c ⟨initL 0 (f98.av x), f98.bl x, 2⟩ (contF (getA tys) 2 Try.f98.results.toList f98.inR) := by kernel_rfl
theorem f98.ok (K : Nat) : EntryOK Try.prog 98 (f98.E K) :=
  gen_ok mix tys_ok (f98.tabOK K) Try.func98 (by kernel_rfl : Try.f98.body = some f98.c) (by kernel_rfl) (f98.loops K) (av := f98.av) (bl := f98.bl) (out := f98.out) (fuel := 400)
    (by intro s x h; unfold f98.inA at h; split at h <;> simp at h; subst h; rfl) (fun _ => Nat.le_of_ble_eq_true rfl)
    (by intro s y h; unfold f98.inR at h; split at h <;> simp at h <;> subst h <;> rfl) (fun _ _ _ => rfl) (f98.eq K)
end Go.Proofs

namespace Go.Proofs
open Go.VM
/-! ### burrow/burrowref01.Told -/
noncomputable def f121.c : Code := bodyOf Try.f121
def f121.lp (_ : Nat) : Nat → Option (Hint × Summ) := fun _ => none
def f121.T (_K : Nat) (rec : Nat × Nat × List Int → Option (Int × Nat × List Int)) (a0 : Nat) (m0_0 : Nat) (m0_1 : List Int) : Option (Int × Nat × List Int) :=
  bif (((a0 : Nat) : Int) == 0) then
    some (0, m0_0, m0_1)
  else
    let v3 := IntKind.wrap .i64 (((a0 : Nat) : Int) - 1)
    bif (decide (0 ≤ v3 ∧ v3 ≤ ((a0 : Nat) : Int)) && true) then
      let v4 := Int.toNat v3
      bif ((Nat.ble (0 + v4) m0_0 && true) && true) then
        (rec (v4, v4, (subI m0_1 0 v4))).bind fun y5 =>
        bif decide (0 ≤ v3 ∧ v3 < ((a0 : Nat) : Int)) then
          let v7 := 0 + (Int.toNat v3)
          bif Nat.blt v7 m0_0 then
            some ((IntKind.wrap .u64 ((IntKind.wrap .u64 (256 * y5.1)) + (IntKind.wrap .u64 (List.getD m0_1 v7 0)))), m0_0, m0_1)
          else
            none
        else
          none
      else
        none
    else
      none
def f121.R (K : Nat) (rec : Nat × Nat × List Int → Option (Int × Nat × List Int)) (x : Nat × Nat × List Int) : Option (Int × Nat × List Int) := f121.T K rec x.1 x.2.1 x.2.2
def f121.F : Nat → (Nat × Nat × List Int) → Option (Int × Nat × List Int) := recF f121.R
def f121.av (x : Nat × Nat × List Int) : List VV := [.vw true 0 0 x.1 1]
def f121.bl (x : Nat × Nat × List Int) : List (Nat × Blk) := [(0, ([.ints .u8 x.2.1 x.2.2], 0, .ro))]
def f121.inA : VS → Option (Nat × Nat × List Int)
  | ⟨[(0, .vw true 0 0 a0 1)], [(0, ([.ints .u8 m0_0 m0_1], 0, .ro))], 2⟩ => some (a0, m0_0, m0_1)
  | _ => none
def f121.o0 (y : Int × Nat × List Int) : VS := ⟨[(0, .int .u64 y.1)], [(0, ([.ints .u8 y.2.1 y.2.2], 0, .ro))], 2⟩
def f121.des : ∀ α : Type, (Int × Nat × List Int) → (VS → Option α) → Option α := (dv1 f121.o0)
def f121.out : Int × Nat × List Int → VS := f121.o0
def f121.inR : VS → Option (Int × Nat × List Int)
  | ⟨[(0, .int .u64 y)], [(0, ([.ints .u8 z0_0 z0_1], 0, .ro))], 2⟩ => some (y, z0_0, z0_1)
  | _ => none
noncomputable def f121.E (K : Nat) : Entry := genE 2 f121.inA (f121.F K) f121.des
noncomputable def f121.tab (K : Nat) : List (Nat × Entry) := [(121, (viewE [(0, .u8)] (f121.E K)))]
theorem f121.tabOK (K : Nat) (h : EntryOK Try.prog 121 (f121.E K)) : SpecOK Try.prog (tabSp (f121.tab K)) := tab_ok ((tab_cons (view_ok h) tab_nil))
theorem f121.loops (K : Nat) : LoopsOK Try.prog 21 2 (f121.lp K) f121.c := loops_ok (by
  have h : loopsIn (f121.lp K) f121.c = [] := by kernel_rfl
  rw [h]; simp)
theorem f121.eq (K : Nat) (x : Nat × Nat × List Int) : f121.F (K + 1) x = xrun (getA tys) (tabSp (f121.tab K)) Try.f121.ntmps 2 (f121.lp K) 400 f121.c ⟨initL 0 (f121.av x), f121.bl x, 2⟩ (contF (getA tys) 2 Try.f121.results.toList f121.inR) := by kernel_rfl
theorem f121.ok : ∀ K : Nat, EntryOK Try.prog 121 (f121.E K)
  | 0 => gen_none (fun _ => rfl)
  | K + 1 =>
  gen_ok mix tys_ok (f121.tabOK K (f121.ok K)) Try.func121 (by kernel_rfl : Try.f121.body = some f121.c) (by kernel_rfl) (f121.loops K) (av := f121.av) (bl := f121.bl) (out := f121.out) (fuel := 400)
    (by intro s x h; unfold f121.inA at h; split at h <;> simp at h; subst h; rfl) (fun _ => Nat.le_of_ble_eq_true rfl)
    (by intro s y h; unfold f121.inR at h; split at h <;> simp at h <;> subst h <;> rfl) (fun _ _ _ => rfl) (f121.eq K)
end Go.Proofs

namespace Go.Proofs
open Go.VM
/-! ### burrow/burrowref01.GetLong -/
noncomputable def f99.c : Code := bodyOf Try.f99
def f99.s0t (K : Nat) (rec : Nat × Int × Nat × List Int × List Int × List Int → Option (Nat × List Int × List Int × List Int)) (t0 : Nat) (t5 : Int) (b0_0 : Nat) (b0_1 : List Int) (b2 : List Int) (b3 : List Int) : Option (Nat × List Int × List Int × List Int) :=
  bif (decide (t5 < 4)) then
    let v5 := IntKind.wrap .i64 (24 - (IntKind.wrap .i64 (8 * t5)))
    let v7 := IntKind.wrap .i64 (32 - (IntKind.wrap .i64 (8 * t5)))
    bif (decide (0 ≤ v7 ∧ v7 ≤ ((t0 : Nat) : Int)) && (decide (0 ≤ v5 ∧ v5 ≤ ((Int.toNat v7 : Nat) : Int)))) then
      let v8 := 0 + (Int.toNat v5)
      let v9 := (Int.toNat v7) - (Int.toNat v5)
      bif ((Nat.ble (v8 + v9) b0_0 && true) && true) then
        (f121.F K (v9, v9, (subI b0_1 v8 v9))).bind fun y10 =>
        bif decide (0 ≤ t5 ∧ t5 < 4) then
          rec (t0, (IntKind.wrap .i64 (t5 + 1)), b0_0, b0_1, b2, (setD b3 (Int.toNat t5) y10.1))
        else
          none
      else
        none
    else
      none
  else
    some (b0_0, b0_1, b2, b3)
def f99.s0 (K : Nat) (rec : Nat × Int × Nat × List Int × List Int × List Int → Option (Nat × List Int × List Int × List Int)) (x : Nat × Int × Nat × List Int × List Int × List Int) : Option (Nat × List Int × List Int × List Int) := f99.s0t K rec x.1 x.2.1 x.2.2.1 x.2.2.2.1 x.2.2.2.2.1 x.2.2.2.2.2
noncomputable def f99.s0.b : Code := (findLoop 0 f99.c).getD .skip
def f99.s0.h : Hint := { lv := [0, 2, 4, 5] }
def f99.s0.ho : Hint := { lv := [2, 4] }
def f99.s0.shp (x : Nat × Int × Nat × List Int × List Int × List Int) : VS := ⟨[(0, .vw true 0 0 x.1 1), (2, .ptr 2 0), (4, .ptr 3 0), (5, .int .i64 x.2.1)], [(0, ([.ints .u8 x.2.2.1 x.2.2.2.1], 0, .ro)), (2, ([.ints .u64 4 x.2.2.2.2.1], 24, .norm)), (3, ([.ints .u64 4 x.2.2.2.2.2], 24, .norm))], 4⟩
def f99.s0.inX : VS → Option (Nat × Int × Nat × List Int × List Int × List Int)
  | ⟨[(0, .vw true 0 0 t0 1), (2, .ptr 2 0), (4, .ptr 3 0), (5, .int .i64 t5)], [(0, ([.ints .u8 b0_0 b0_1], 0, .ro)), (2, ([.ints .u64 4 b2], 24, .norm)), (3, ([.ints .u64 4 b3], 24, .norm))], 4⟩ => some (t0, t5, b0_0, b0_1, b2, b3)
  | _ => none
def f99.s0.o0 (y : Nat × List Int × List Int × List Int) : VS := ⟨[(2, .ptr 2 0), (4, .ptr 3 0)], [(0, ([.ints .u8 y.1 y.2.1], 0, .ro)), (2, ([.ints .u64 4 y.2.2.1], 24, .norm)), (3, ([.ints .u64 4 y.2.2.2], 24, .norm))], 4⟩
def f99.s0.des : ∀ α : Type, (Nat × List Int × List Int × List Int) → (Ex → VS → Option α) → Option α := (des1 (.exit 0) f99.s0.o0)
def f99.s0.out : Nat × List Int × List Int × List Int → Ex × VS := (fun y => (.exit 0, f99.s0.o0 y))
theorem f99.s0.desOK : ∀ α y (k : Ex → VS → Option α), f99.s0.des α y k = k (f99.s0.out y).1 (f99.s0.out y).2 := (fun _ _ _ => rfl)
def f99.s0.inY : Ex → VS → Option (Nat × List Int × List Int × List Int)
  | .exit 0, ⟨[(2, .ptr 2 0), (4, .ptr 3 0)], [(0, ([.ints .u8 b0_0 b0_1], 0, .ro)), (2, ([.ints .u64 4 b2], 24, .norm)), (3, ([.ints .u64 4 b3], 24, .norm))], 4⟩ => some (b0_0, b0_1, b2, b3)
  | _, _ => none
def f99.lp (K : Nat) : Nat → Option (Hint × Summ) := tabLp [(0, f99.s0.h, summOf (iter (f99.s0 K) K) f99.s0.inX f99.s0.des)]
noncomputable def f99.tab (K : Nat) : List (Nat × Entry) := [(121, (viewE [(0, .u8)] (f121.E K)))]
theorem f99.tabOK (K : Nat) : SpecOK Try.prog (tabSp (f99.tab K)) := tab_ok ((tab_cons (view_ok (f121.ok K)) tab_nil))
theorem f99.s0.eq (K : Nat) (rec : Nat × Int × Nat × List Int × List Int × List Int → Option (Nat × List Int × List Int × List Int)) (x : Nat × Int × Nat × List Int × List Int × List Int) : f99.s0 K rec x = roundL (getA tys) (tabSp (f99.tab K)) 26 2 (f99.lp K) 400 f99.s0.b f99.s0.h f99.s0.ho f99.s0.shp f99.s0.inX f99.s0.inY rec x := by kernel_rfl
theorem f99.s0.lok (K : Nat) : LoopsOK Try.prog 26 2 (f99.lp K) f99.s0.b := loops_ok (by
  have h : loopsIn (f99.lp K) f99.s0.b = [] := by kernel_rfl
  rw [h]; simp)
theorem f99.s0.ok (K : Nat) : SummOK Try.prog 26 2 (summOf (iter (f99.s0 K) K) f99.s0.inX f99.s0.des) f99.s0.b :=
  loop_ok mix tys_ok (f99.tabOK K) (h := f99.s0.h) (ho := f99.s0.ho) (shp := f99.s0.shp) (inX := f99.s0.inX) (des := f99.s0.des) (out := f99.s0.out) (inY := f99.s0.inY) (fuel := 400)
    (by intro st x h; unfold f99.s0.inX at h; split at h <;> simp at h; subst h; rfl)
    (by intro e st y h; unfold f99.s0.inY at h; split at h <;> simp at h <;> subst h <;> rfl)
    f99.s0.desOK (f99.s0.lok K) (f99.s0 K) (f99.s0.eq K) K
theorem f99.loops (K : Nat) : LoopsOK Try.prog 26 2 (f99.lp K) f99.c := loops_ok (by
  have h : loopsIn (f99.lp K) f99.c = [(0, f99.s0.b)] := by kernel_rfl
  rw [h]
  intro p hp
  simp only [List.mem_cons, List.not_mem_nil, or_false] at hp
  rcases hp with rfl
  · exact ⟨_, rfl, (f99.s0.ok K)⟩)
def f99.T (K : Nat) (a0 : Nat) (m0_0 : Nat) (m0_1 : List Int) : Option (List Int × Int × Nat × List Int) :=
  bif (decide (((a0 : Nat) : Int) < 32)) then
    some ([0, 0, 0, 0], 5, m0_0, m0_1)
  else
    (iter (f99.s0 K) K (a0, 0, m0_0, m0_1, [0, 0, 0, 0], [0, 0, 0, 0])).bind fun y14 =>
    some (y14.2.2.2, 0, y14.1, y14.2.1)
def f99.F (K : Nat) (x : Nat × Nat × List Int) : Option (List Int × Int × Nat × List Int) := f99.T K x.1 x.2.1 x.2.2
def f99.av (x : Nat × Nat × List Int) : List VV := [.vw true 0 0 x.1 1]
def f99.bl (x : Nat × Nat × List Int) : List (Nat × Blk) := [(0, ([.ints .u8 x.2.1 x.2.2], 0, .ro))]
def f99.inA : VS → Option (Nat × Nat × List Int)
  | ⟨[(0, .vw true 0 0 a0 1)], [(0, ([.ints .u8 m0_0 m0_1], 0, .ro))], 2⟩ => some (a0, m0_0, m0_1)
  | _ => none
def f99.o0 (y : List Int × Int × Nat × List Int) : VS := ⟨[(0, .tup [.agg [.ints .u64 4 y.1], .int .i64 y.2.1])], [(0, ([.ints .u8 y.2.2.1 y.2.2.2], 0, .ro))], 2⟩
def f99.des : ∀ α : Type, (List Int × Int × Nat × List Int) → (VS → Option α) → Option α := (dv1 f99.o0)
def f99.out : List Int × Int × Nat × List Int → VS := f99.o0
def f99.inR : VS → Option (List Int × Int × Nat × List Int)
  | ⟨[(0, .tup [.agg [.ints .u64 4 y_0], .int .i64 y_1])], [(0, ([.ints .u8 z0_0 z0_1], 0, .ro))], 2⟩ => some (y_0, y_1, z0_0, z0_1)
  | _ => none
noncomputable def f99.E (K : Nat) : Entry := genE 2 f99.inA (f99.F K) f99.des
theorem f99.eq (K : Nat) (x : Nat × Nat × List Int) : f99.F K x = xrun (getA tys) (tabSp (f99.tab K)) Try.f99.ntmps 2 (f99.lp K) 400 f99.c ⟨initL 0 (f99.av x), f99.bl x, 2⟩ (contF (getA tys) 2 Try.f99.results.toList f99.inR) := by kernel_rfl
theorem f99.ok (K : Nat) : EntryOK Try.prog 99 (f99.E K) :=
  gen_ok mix tys_ok (f99.tabOK K) Try.func99 (by kernel_rfl : Try.f99.body = some f99.c) (by kernel_rfl) (f99.loops K) (av := f99.av) (bl := f99.bl) (out := f99.out) (fuel := 400)
    (by intro s x h; unfold f99.inA at h; split at h <;> simp at h; subst h; rfl) (fun _ => Nat.le_of_ble_eq_true rfl)
    (by intro s y h; unfold f99.inR at h; split at h <;> simp at h <;> subst h <;> rfl) (fun _ _ _ => rfl) (f99.eq K)
end Go.Proofs

namespace Go.Proofs
open Go.VM
/-! ### burrow/burrowref01.Get -/
noncomputable def f123.c : Code := bodyOf Try.f123
def f123.lp (_ : Nat) : Nat → Option (Hint × Summ) := fun _ => none
noncomputable def f123.tab (K : Nat) : List (Nat × Entry) := [(121, (viewE [(0, .u8)] (f121.E K)))]
theorem f123.tabOK (K : Nat) : SpecOK Try.prog (tabSp (f123.tab K)) := tab_ok ((tab_cons (view_ok (f121.ok K)) tab_nil))
theorem f123.loops (K : Nat) : LoopsOK Try.prog 22 2 (f123.lp K) f123.c := loops_ok (by
  have h : loopsIn (f123.lp K) f123.c = [] := by kernel_rfl
  rw [h]; simp)
def f123.T (K : Nat) (a0 : Nat) (a1 : Int) (m0_0 : Nat) (m0_1 : List Int) : Option (Int × Int × Nat × List Int) :=
  bif (decide (a1 < 0)) then
    some (0, 1, m0_0, m0_1)
  else
    bif (decide (a1 > 8)) then
      some (0, 1, m0_0, m0_1)
    else
      bif (decide (a1 > ((a0 : Nat) : Int))) then
        some (0, 5, m0_0, m0_1)
      else
        bif (decide (0 ≤ a1 ∧ a1 ≤ ((a0 : Nat) : Int)) && true) then
          let v5 := Int.toNat a1
          bif ((Nat.ble (0 + v5) m0_0 && true) && true) then
            (f121.F K (v5, v5, (subI m0_1 0 v5))).bind fun y6 =>
            some (y6.1, 0, m0_0, m0_1)
          else
            none
        else
          none
def f123.F (K : Nat) (x : Nat × Int × Nat × List Int) : Option (Int × Int × Nat × List Int) := f123.T K x.1 x.2.1 x.2.2.1 x.2.2.2
def f123.av (x : Nat × Int × Nat × List Int) : List VV := [.vw true 0 0 x.1 1, .int .i64 x.2.1]
def f123.bl (x : Nat × Int × Nat × List Int) : List (Nat × Blk) := [(0, ([.ints .u8 x.2.2.1 x.2.2.2], 0, .ro))]
def f123.inA : VS → Option (Nat × Int × Nat × List Int)
  | ⟨[(0, .vw true 0 0 a0 1), (1, .int .i64 a1)], [(0, ([.ints .u8 m0_0 m0_1], 0, .ro))], 2⟩ => some (a0, a1, m0_0, m0_1)
  | _ => none
def f123.o0 (y : Int × Int × Nat × List Int) : VS := ⟨[(0, .tup [.int .u64 y.1, .int .i64 y.2.1])], [(0, ([.ints .u8 y.2.2.1 y.2.2.2], 0, .ro))], 2⟩
def f123.des : ∀ α : Type, (Int × Int × Nat × List Int) → (VS → Option α) → Option α := (dv1 f123.o0)
def f123.out : Int × Int × Nat × List Int → VS := f123.o0
def f123.inR : VS → Option (Int × Int × Nat × List Int)
  | ⟨[(0, .tup [.int .u64 y_0, .int .i64 y_1])], [(0, ([.ints .u8 z0_0 z0_1], 0, .ro))], 2⟩ => some (y_0, y_1, z0_0, z0_1)
  | _ => none
noncomputable def f123.E (K : Nat) : Entry := genE 2 f123.inA (f123.F K) f123.des
theorem f123.eq (K : Nat) (x : Nat × Int × Nat × List Int) : f123.F K x = xrun (getA tys) (tabSp (f123.tab K)) Try.f123.ntmps 2 (f123.lp K) 400 f123.c ⟨initL 0 (f123.av x), f123.bl x, 2⟩ (contF (getA tys) 2 Try.f123.results.toList f123.inR) := by kernel_rfl
theorem f123.ok (K : Nat) : EntryOK Try.prog 123 (f123.E K) :=
  gen_ok mix tys_ok (f123.tabOK K) Try.func123 (by kernel_rfl : Try.f123.body = some f123.c) (by kernel_rfl) (f123.loops K) (av := f123.av) (bl := f123.bl) (out := f123.out) (fuel := 400)
    (by intro s x h; unfold f123.inA at h; split at h <;> simp at h; subst h; rfl) (fun _ => Nat.le_of_ble_eq_true rfl)
    (by intro s y h; unfold f123.inR at h; split at h <;> simp at h <;> subst h <;> rfl) (fun _ _ _ => rfl) (f123.eq K)
end Go.Proofs

namespace Go.Proofs
open Go.VM
/-! ### burrow/burrowref03.word -/
noncomputable def f102.c : Code := bodyOf Try.f102
def f102.s0t (K : Nat) (rec : Nat × Int × Int × Int × Nat × List Int → Option (Int × Nat × List Int)) (t0 : Nat) (t1 : Int) (t5 : Int) (t6 : Int) (b0_0 : Nat) (b0_1 : List Int) : Option (Int × Nat × List Int) :=
  bif (decide (t6 < ((t0 : Nat) : Int))) then
    bif decide (0 ≤ t6 ∧ t6 ≤ ((t0 : Nat) : Int)) then
      let v3 := 0 + (Int.toNat t6)
      let v4 := t0 - (Int.toNat t6)
      bif ((Nat.ble (v3 + v4) b0_0 && true) && true) then
        (f123.F K (v4, 8, v4, (subI b0_1 v3 v4))).bind fun y5 =>
        (f100.F K (t5, y5.1, t1)).bind fun y6 =>
        rec (t0, t1, y6.2, (IntKind.wrap .i64 (t6 + 8)), b0_0, b0_1)
      else
        none
    else
      none
  else
    some (t5, b0_0, b0_1)
def f102.s0 (K : Nat) (rec : Nat × Int × Int × Int × Nat × List Int → Option (Int × Nat × List Int)) (x : Nat × Int × Int × Int × Nat × List Int) : Option (Int × Nat × List Int) := f102.s0t K rec x.1 x.2.1 x.2.2.1 x.2.2.2.1 x.2.2.2.2.1 x.2.2.2.2.2
noncomputable def f102.s0.b : Code := (findLoop 0 f102.c).getD .skip
def f102.s0.h : Hint := { lv := [0, 1, 5, 6] }
def f102.s0.ho : Hint := { lv := [5] }
def f102.s0.shp (x : Nat × Int × Int × Int × Nat × List Int) : VS := ⟨[(0, .vw true 0 0 x.1 1), (1, .int .u64 x.2.1), (5, .int .u64 x.2.2.1), (6, .int .i64 x.2.2.2.1)], [(0, ([.ints .u8 x.2.2.2.2.1 x.2.2.2.2.2], 0, .ro))], 2⟩
def f102.s0.inX : VS → Option (Nat × Int × Int × Int × Nat × List Int)
  | ⟨[(0, .vw true 0 0 t0 1), (1, .int .u64 t1), (5, .int .u64 t5), (6, .int .i64 t6)], [(0, ([.ints .u8 b0_0 b0_1], 0, .ro))], 2⟩ => some (t0, t1, t5, t6, b0_0, b0_1)
  | _ => none
def f102.s0.o0 (y : Int × Nat × List Int) : VS := ⟨[(5, .int .u64 y.1)], [(0, ([.ints .u8 y.2.1 y.2.2], 0, .ro))], 2⟩
def f102.s0.des : ∀ α : Type, (Int × Nat × List Int) → (Ex → VS → Option α) → Option α := (des1 (.exit 0) f102.s0.o0)
def f102.s0.out : Int × Nat × List Int → Ex × VS := (fun y => (.exit 0, f102.s0.o0 y))
theorem f102.s0.desOK : ∀ α y (k : Ex → VS → Option α), f102.s0.des α y k = k (f102.s0.out y).1 (f102.s0.out y).2 := (fun _ _ _ => rfl)
def f102.s0.inY : Ex → VS → Option (Int × Nat × List Int)
  | .exit 0, ⟨[(5, .int .u64 t5)], [(0, ([.ints .u8 b0_0 b0_1], 0, .ro))], 2⟩ => some (t5, b0_0, b0_1)
  | _, _ => none
def f102.lp (K : Nat) : Nat → Option (Hint × Summ) := tabLp [(0, f102.s0.h, summOf (iter (f102.s0 K) K) f102.s0.inX f102.s0.des)]
noncomputable def f102.tab (K : Nat) : List (Nat × Entry) := [(123, (viewE [(0, .u8)] (f123.E K))), (100, (f100.E K))]
theorem f102.tabOK (K : Nat) : SpecOK Try.prog (tabSp (f102.tab K)) := tab_ok ((tab_cons (view_ok (f123.ok K)) (tab_cons (f100.ok K) tab_nil)))
theorem f102.s0.eq (K : Nat) (rec : Nat × Int × Int × Int × Nat × List Int → Option (Int × Nat × List Int)) (x : Nat × Int × Int × Int × Nat × List Int) : f102.s0 K rec x = roundL (getA tys) (tabSp (f102.tab K)) 30 2 (f102.lp K) 400 f102.s0.b f102.s0.h f102.s0.ho f102.s0.shp f102.s0.inX f102.s0.inY rec x := by kernel_rfl
theorem f102.s0.lok (K : Nat) : LoopsOK Try.prog 30 2 (f102.lp K) f102.s0.b := loops_ok (by
  have h : loopsIn (f102.lp K) f102.s0.b = [] := by kernel_rfl
  rw [h]; simp)
theorem f102.s0.ok (K : Nat) : SummOK Try.prog 30 2 (summOf (iter (f102.s0 K) K) f102.s0.inX f102.s0.des) f102.s0.b :=
  loop_ok mix tys_ok (f102.tabOK K) (h := f102.s0.h) (ho := f102.s0.ho) (shp := f102.s0.shp) (inX := f102.s0.inX) (des := f102.s0.des) (out := f102.s0.out) (inY := f102.s0.inY) (fuel := 400)
    (by intro st x h; unfold f102.s0.inX at h; split at h <;> simp at h; subst h; rfl)
    (by intro e st y h; unfold f102.s0.inY at h; split at h <;> simp at h <;> subst h <;> rfl)
    f102.s0.desOK (f102.s0.lok K) (f102.s0 K) (f102.s0.eq K) K
theorem f102.loops (K : Nat) : LoopsOK Try.prog 30 2 (f102.lp K) f102.c := loops_ok (by
  have h : loopsIn (f102.lp K) f102.c = [(0, f102.s0.b)] := by kernel_rfl
  rw [h]
  intro p hp
  simp only [List.mem_cons, List.not_mem_nil, or_false] at hp
  rcases hp with rfl
  · exact ⟨_, rfl, (f102.s0.ok K)⟩)
def f102.T (K : Nat) (a0 : Nat) (a1 : Int) (m0_0 : Nat) (m0_1 : List Int) : Option (Int × Nat × List Int) :=
  (iter (f102.s0 K) K (a0, a1, 0, 0, m0_0, m0_1)).bind fun y8 =>
  some (y8.1, y8.2.1, y8.2.2)
def f102.F (K : Nat) (x : Nat × Int × Nat × List Int) : Option (Int × Nat × List Int) := f102.T K x.1 x.2.1 x.2.2.1 x.2.2.2
def f102.av (x : Nat × Int × Nat × List Int) : List VV := [.vw true 0 0 x.1 1, .int .u64 x.2.1]
def f102.bl (x : Nat × Int × Nat × List Int) : List (Nat × Blk) := [(0, ([.ints .u8 x.2.2.1 x.2.2.2], 0, .ro))]
def f102.inA : VS → Option (Nat × Int × Nat × List Int)
  | ⟨[(0, .vw true 0 0 a0 1), (1, .int .u64 a1)], [(0, ([.ints .u8 m0_0 m0_1], 0, .ro))], 2⟩ => some (a0, a1, m0_0, m0_1)
  | _ => none
def f102.o0 (y : Int × Nat × List Int) : VS := ⟨[(0, .int .u64 y.1)], [(0, ([.ints .u8 y.2.1 y.2.2], 0, .ro))], 2⟩
def f102.des : ∀ α : Type, (Int × Nat × List Int) → (VS → Option α) → Option α := (dv1 f102.o0)
def f102.out : Int × Nat × List Int → VS := f102.o0
def f102.inR : VS → Option (Int × Nat × List Int)
  | ⟨[(0, .int .u64 y)], [(0, ([.ints .u8 z0_0 z0_1], 0, .ro))], 2⟩ => some (y, z0_0, z0_1)
  | _ => none
noncomputable def f102.E (K : Nat) : Entry := genE 2 f102.inA (f102.F K) f102.des
theorem f102.eq (K : Nat) (x : Nat × Int × Nat × List Int) : f102.F K x = xrun (getA tys) (tabSp (f102.tab K)) Try.f102.ntmps 2 (f102.lp K) 400 f102.c ⟨initL 0 (f102.av x), f102.bl x, 2⟩ (contF (getA tys) 2 Try.f102.results.toList f102.inR) := by kernel_rfl
theorem f102.ok (K : Nat) : EntryOK Try.prog 102 (f102.E K) :=
  gen_ok mix tys_ok (f102.tabOK K) Try.func102 (by kernel_rfl : Try.f102.body = some f102.c) (by kernel_rfl) (f102.loops K) (av := f102.av) (bl := f102.bl) (out := f102.out) (fuel := 400)
    (by intro s x h; unfold f102.inA at h; split at h <;> simp at h; subst h; rfl) (fun _ => Nat.le_of_ble_eq_true rfl)
    (by intro s y h; unfold f102.inR at h; split at h <;> simp at h <;> subst h <;> rfl) (fun _ _ _ => rfl) (f102.eq K)
end Go.Proofs

namespace Go.Proofs
open Go.VM
/-! ### burrow/burrowref03.Div -/
noncomputable def f53.c : Code := bodyOf Try.f53
def f53.lp (_ : Nat) : Nat → Option (Hint × Summ) := fun _ => none
noncomputable def f53.tab (K : Nat) : List (Nat × Entry) := [(96, (f96.E K)), (47, (f47.E K)), (98, (viewE [(0, .u8)] (f98.E K))), (97, (viewE [(0, .u8)] (f97.E K))), (99, (viewE [(0, .u8)] (f99.E K)))]
theorem f53.tabOK (K : Nat) : SpecOK Try.prog (tabSp (f53.tab K)) := tab_ok ((tab_cons (f96.ok K) (tab_cons (f47.ok K) (tab_cons (view_ok (f98.ok K)) (tab_cons (view_ok (f97.ok K)) (tab_cons (view_ok (f99.ok K)) tab_nil))))))
theorem f53.loops (K : Nat) : LoopsOK Try.prog 50 0 (f53.lp K) f53.c := loops_ok (by
  have h : loopsIn (f53.lp K) f53.c = [] := by kernel_rfl
  rw [h]; simp)
def f53.T (K : Nat) (a0 : List Int) (a1 : List Int) : Option (List Int × List Int × Int) :=
  bif (eqL 4 a1 [0, 0, 0, 0] && true) then
    some (a1, a1, 1)
  else
    (f96.F K a0).bind fun y2 =>
    bif y2 then
      (f96.F K a1).bind fun y3 =>
      bif y3 then
        let v5 := List.getD a1 0 0
        bif decide (v5 ≠ 0) then
          (f47.F K (IntKind.wrap .u64 (Int.tdiv (List.getD a0 0 0) v5))).bind fun y7 =>
          let v9 := List.getD a1 0 0
          bif decide (v9 ≠ 0) then
            (f47.F K (Int.tmod (List.getD a0 0 0) v9)).bind fun y11 =>
            some (y7, y11, 0)
          else
            none
        else
          none
      else
        (f98.F K (0, a0, 0, [])).bind fun y12 =>
        bif ((Nat.ble (0 + y12.1) y12.2.2.2.1 && true) && true) then
          (f97.F K (y12.1, a1, y12.1, (subI y12.2.2.2.2 0 y12.1))).bind fun y13 =>
          bif ((Nat.ble (0 + y13.1) y13.2.2.2.2.1 && true) && true) then
            (f99.F K (y13.1, y13.1, (subI y13.2.2.2.2.2 0 y13.1))).bind fun y14 =>
            some (y14.1, y13.2.1, 0)
          else
            none
        else
          none
    else
      (f98.F K (0, a0, 0, [])).bind fun y15 =>
      bif ((Nat.ble (0 + y15.1) y15.2.2.2.1 && true) && true) then
        (f97.F K (y15.1, a1, y15.1, (subI y15.2.2.2.2 0 y15.1))).bind fun y16 =>
        bif ((Nat.ble (0 + y16.1) y16.2.2.2.2.1 && true) && true) then
          (f99.F K (y16.1, y16.1, (subI y16.2.2.2.2.2 0 y16.1))).bind fun y17 =>
          some (y17.1, y16.2.1, 0)
        else
          none
      else
        none
def f53.F (K : Nat) (x : List Int × List Int) : Option (List Int × List Int × Int) := f53.T K x.1 x.2
def f53.av (x : List Int × List Int) : List VV := [.agg [.ints .u64 4 x.1], .agg [.ints .u64 4 x.2]]
def f53.bl (_x : List Int × List Int) : List (Nat × Blk) := []
def f53.inA : VS → Option (List Int × List Int)
  | ⟨[(0, .agg [.ints .u64 4 a0]), (1, .agg [.ints .u64 4 a1])], [], 0⟩ => some (a0, a1)
  | _ => none
def f53.o0 (y : List Int × List Int × Int) : VS := ⟨[(0, .tup [.agg [.ints .u64 4 y.1], .agg [.ints .u64 4 y.2.1], .int .i64 y.2.2])], [], 0⟩
def f53.des : ∀ α : Type, (List Int × List Int × Int) → (VS → Option α) → Option α := (dv1 f53.o0)
def f53.out : List Int × List Int × Int → VS := f53.o0
def f53.inR : VS → Option (List Int × List Int × Int)
  | ⟨[(0, .tup [.agg [.ints .u64 4 y_0], .agg [.ints .u64 4 y_1], .int .i64 y_2])], [], 0⟩ => some (y_0, y_1, y_2)
  | _ => none
noncomputable def f53.E (K : Nat) : Entry := genE 0 f53.inA (f53.F K) f53.des
theorem f53.eq (K : Nat) (x : List Int × List Int) : f53.F K x = xrun (getA tys) (tabSp (f53.tab K)) Try.f53.ntmps 0 (f53.lp K) 400 f53.c ⟨initL 0 (f53.av x), f53.bl x, 0⟩ (contF (getA tys) 0 Try.f53.results.toList f53.inR) := by kernel_rfl
theorem f53.ok (K : Nat) : EntryOK Try.prog 53 (f53.E K) :=
  gen_ok mix tys_ok (f53.tabOK K) Try.func53 (by kernel_rfl : Try.f53.body = some f53.c) (by kernel_rfl) (f53.loops K) (av := f53.av) (bl := f53.bl) (out := f53.out) (fuel := 400)
    (by intro s x h; unfold f53.inA at h; split at h <;> simp at h; subst h; rfl) (fun _ => Nat.le_of_ble_eq_true rfl)
    (by intro s y h; unfold f53.inR at h; split at h <;> simp at h <;> subst h <;> rfl) (fun _ _ _ => rfl) (f53.eq K)
end Go.Proofs

namespace Go.Proofs
open Go.VM
/-! ### burrow/burrowref03.Wide -/
noncomputable def f55.c : Code := bodyOf Try.f55
def f55.lp (_ : Nat) : Nat → Option (Hint × Summ) := fun _ => none
noncomputable def f55.tab (K : Nat) : List (Nat × Entry) := [(98, (viewE [(0, .u8)] (f98.E K))), (96, (f96.E K)), (102, (viewE [(0, .u8)] (f102.E K))), (47, (f47.E K)), (97, (viewE [(0, .u8)] (f97.E K)))]
theorem f55.tabOK (K : Nat) : SpecOK Try.prog (tabSp (f55.tab K)) := tab_ok ((tab_cons (view_ok (f98.ok K)) (tab_cons (f96.ok K) (tab_cons (view_ok (f102.ok K)) (tab_cons (f47.ok K) (tab_cons (view_ok (f97.ok K)) tab_nil))))))
theorem f55.loops (K : Nat) : LoopsOK Try.prog 33 0 (f55.lp K) f55.c := loops_ok (by
  have h : loopsIn (f55.lp K) f55.c = [] := by kernel_rfl
  rw [h]; simp)
def f55.T (K : Nat) (a0 : List Int) (a1 : List Int) (a2 : List Int) : Option (List Int × Int) :=
  bif (eqL 4 a2 [0, 0, 0, 0] && true) then
    some (a2, 1)
  else
    (f98.F K (0, a1, 0, [])).bind fun y2 =>
    bif ((Nat.ble (0 + y2.1) y2.2.2.2.1 && true) && true) then
      (f98.F K (y2.1, a0, y2.1, (subI y2.2.2.2.2 0 y2.1))).bind fun y3 =>
      (f96.F K a2).bind fun y4 =>
      bif y4 then
        bif ((Nat.ble (0 + y3.1) y3.2.2.2.1 && true) && true) then
          (f102.F K (y3.1, (List.getD a2 0 0), y3.1, (subI y3.2.2.2.2 0 y3.1))).bind fun y6 =>
          (f47.F K y6.1).bind fun y7 =>
          some (y7, 0)
        else
          none
      else
        bif ((Nat.ble (0 + y3.1) y3.2.2.2.1 && true) && true) then
          (f97.F K (y3.1, a2, y3.1, (subI y3.2.2.2.2 0 y3.1))).bind fun y8 =>
          some (y8.2.1, 0)
        else
          none
    else
      none
def f55.F (K : Nat) (x : List Int × List Int × List Int) : Option (List Int × Int) := f55.T K x.1 x.2.1 x.2.2
def f55.av (x : List Int × List Int × List Int) : List VV := [.agg [.ints .u64 4 x.1], .agg [.ints .u64 4 x.2.1], .agg [.ints .u64 4 x.2.2]]
def f55.bl (_x : List Int × List Int × List Int) : List (Nat × Blk) := []
def f55.inA : VS → Option (List Int × List Int × List Int)
  | ⟨[(0, .agg [.ints .u64 4 a0]), (1, .agg [.ints .u64 4 a1]), (2, .agg [.ints .u64 4 a2])], [], 0⟩ => some (a0, a1, a2)
  | _ => none
def f55.o0 (y : List Int × Int) : VS := ⟨[(0, .tup [.agg [.ints .u64 4 y.1], .int .i64 y.2])], [], 0⟩
def f55.des : ∀ α : Type, (List Int × Int) → (VS → Option α) → Option α := (dv1 f55.o0)
def f55.out : List Int × Int → VS := f55.o0
def f55.inR : VS → Option (List Int × Int)
  | ⟨[(0, .tup [.agg [.ints .u64 4 y_0], .int .i64 y_1])], [], 0⟩ => some (y_0, y_1)
  | _ => none
noncomputable def f55.E (K : Nat) : Entry := genE 0 f55.inA (f55.F K) f55.des
theorem f55.eq (K : Nat) (x : List Int × List Int × List Int) : f55.F K x = xrun (getA tys) (tabSp (f55.tab K)) Try.f55.ntmps 0 (f55.lp K) 400 f55.c ⟨initL 0 (f55.av x), f55.bl x, 0⟩ (contF (getA tys) 0 Try.f55.results.toList f55.inR) := by kernel_rfl
theorem f55.ok (K : Nat) : EntryOK Try.prog 55 (f55.E K) :=
  gen_ok mix tys_ok (f55.tabOK K) Try.func55 (by kernel_rfl : Try.f55.body = some f55.c) (by kernel_rfl) (f55.loops K) (av := f55.av) (bl := f55.bl) (out := f55.out) (fuel := 400)
    (by intro s x h; unfold f55.inA at h; split at h <;> simp at h; subst h; rfl) (fun _ => Nat.le_of_ble_eq_true rfl)
    (by intro s y h; unfold f55.inR at h; split at h <;> simp at h <;> subst h <;> rfl) (fun _ _ _ => rfl) (f55.eq K)
end Go.Proofs

namespace Go.Proofs
open Go.VM
/-! ### burrow/burrowref03.Common -/
noncomputable def f57.c : Code := bodyOf Try.f57
def f57.s0t (K : Nat) (rec : Int × List Int × List Int × List Int × List Int → Option (Int × List Int × List Int)) (t6 : Int) (b0 : List Int) (b1 : List Int) (b2 : List Int) (b3 : List Int) : Option (Int × List Int × List Int) :=
  bif (!(eqL 4 b1 b3 && true)) then
    (f41.F K (b0, 0)).bind fun y3 =>
    (f41.F K (b1, 0)).bind fun y4 =>
    bif !(y3 == 1) then
      bif !(y4 == 1) then
        let v5 := IntKind.wrap .i64 (t6 + 1)
        (f39.F K (b0, (-1))).bind fun y6 =>
        (f39.F K (b1, (-1))).bind fun y7 =>
        bif (eqL 4 y6 b3 && true) then
          rec (v5, y7, b3, b2, b3)
        else
          rec (v5, y6, y7, b2, b3)
      else
        bif !(y3 == 1) then
          (f39.F K (b0, (-1))).bind fun y9 =>
          bif (eqL 4 y9 b3 && true) then
            rec (t6, b1, b3, b2, b3)
          else
            rec (t6, y9, b1, b2, b3)
        else
          bif !(y4 == 1) then
            (f39.F K (b1, (-1))).bind fun y11 =>
            bif (eqL 4 b0 b3 && true) then
              rec (t6, y11, b3, b2, b3)
            else
              rec (t6, b0, y11, b2, b3)
          else
            (f45.F K (b0, b1)).bind fun y13 =>
            bif (decide (y13 > 0)) then
              (f35.F K (b0, b1)).bind fun y15 =>
              bif (eqL 4 y15.1 b3 && true) then
                rec (t6, b1, b3, b2, b3)
              else
                rec (t6, y15.1, b1, b2, b3)
            else
              (f35.F K (b1, b0)).bind fun y17 =>
              bif (eqL 4 b0 b3 && true) then
                rec (t6, y17.1, b3, b2, b3)
              else
                rec (t6, b0, y17.1, b2, b3)
    else
      bif !(y3 == 1) then
        (f39.F K (b0, (-1))).bind fun y19 =>
        bif (eqL 4 y19 b3 && true) then
          rec (t6, b1, b3, b2, b3)
        else
          rec (t6, y19, b1, b2, b3)
      else
        bif !(y4 == 1) then
          (f39.F K (b1, (-1))).bind fun y21 =>
          bif (eqL 4 b0 b3 && true) then
            rec (t6, y21, b3, b2, b3)
          else
            rec (t6, b0, y21, b2, b3)
        else
          (f45.F K (b0, b1)).bind fun y23 =>
          bif (decide (y23 > 0)) then
            (f35.F K (b0, b1)).bind fun y25 =>
            bif (eqL 4 y25.1 b3 && true) then
              rec (t6, b1, b3, b2, b3)
            else
              rec (t6, y25.1, b1, b2, b3)
          else
            (f35.F K (b1, b0)).bind fun y27 =>
            bif (eqL 4 b0 b3 && true) then
              rec (t6, y27.1, b3, b2, b3)
            else
              rec (t6, b0, y27.1, b2, b3)
  else
    some (t6, b0, b2)
def f57.s0 (K : Nat) (rec : Int × List Int × List Int × List Int × List Int → Option (Int × List Int × List Int)) (x : Int × List Int × List Int × List Int × List Int) : Option (Int × List Int × List Int) := f57.s0t K rec x.1 x.2.1 x.2.2.1 x.2.2.2.1 x.2.2.2.2
noncomputable def f57.s0.b : Code := (findLoop 0 f57.c).getD .skip
def f57.s0.h : Hint := { lv := [2, 3, 4, 5, 6] }
def f57.s0.ho : Hint := { lv := [2, 4, 6] }
def f57.s0.shp (x : Int × List Int × List Int × List Int × List Int) : VS := ⟨[(2, .ptr 0 0), (3, .ptr 1 0), (4, .ptr 2 0), (5, .ptr 3 0), (6, .int .i64 x.1)], [(0, ([.ints .u64 4 x.2.1], 24, .norm)), (1, ([.ints .u64 4 x.2.2.1], 24, .norm)), (2, ([.ints .u64 4 x.2.2.2.1], 24, .norm)), (3, ([.ints .u64 4 x.2.2.2.2], 24, .norm))], 4⟩
def f57.s0.inX : VS → Option (Int × List Int × List Int × List Int × List Int)
  | ⟨[(2, .ptr 0 0), (3, .ptr 1 0), (4, .ptr 2 0), (5, .ptr 3 0), (6, .int .i64 t6)], [(0, ([.ints .u64 4 b0], 24, .norm)), (1, ([.ints .u64 4 b1], 24, .norm)), (2, ([.ints .u64 4 b2], 24, .norm)), (3, ([.ints .u64 4 b3], 24, .norm))], 4⟩ => some (t6, b0, b1, b2, b3)
  | _ => none
def f57.s0.o0 (y : Int × List Int × List Int) : VS := ⟨[(2, .ptr 0 0), (4, .ptr 1 0), (6, .int .i64 y.1)], [(0, ([.ints .u64 4 y.2.1], 24, .norm)), (1, ([.ints .u64 4 y.2.2], 24, .norm))], 2⟩
def f57.s0.des : ∀ α : Type, (Int × List Int × List Int) → (Ex → VS → Option α) → Option α := (des1 (.exit 0) f57.s0.o0)
def f57.s0.out : Int × List Int × List Int → Ex × VS := (fun y => (.exit 0, f57.s0.o0 y))
theorem f57.s0.desOK : ∀ α y (k : Ex → VS → Option α), f57.s0.des α y k = k (f57.s0.out y).1 (f57.s0.out y).2 := (fun _ _ _ => rfl)
def f57.s0.inY : Ex → VS → Option (Int × List Int × List Int)
  | .exit 0, ⟨[(2, .ptr 0 0), (4, .ptr 1 0), (6, .int .i64 t6)], [(0, ([.ints .u64 4 b0], 24, .norm)), (1, ([.ints .u64 4 b1], 24, .norm))], 2⟩ => some (t6, b0, b1)
  | _, _ => none
def f57.lp (K : Nat) : Nat → Option (Hint × Summ) := tabLp [(0, f57.s0.h, summOf (iter (f57.s0 K) K) f57.s0.inX f57.s0.des)]
noncomputable def f57.tab (K : Nat) : List (Nat × Entry) := [(41, (f41.E K)), (39, (f39.E K)), (45, (f45.E K)), (35, (f35.E K))]
theorem f57.tabOK (K : Nat) : SpecOK Try.prog (tabSp (f57.tab K)) := tab_ok ((tab_cons (f41.ok K) (tab_cons (f39.ok K) (tab_cons (f45.ok K) (tab_cons (f35.ok K) tab_nil)))))
theorem f57.s0.eq (K : Nat) (rec : Int × List Int × List Int × List Int × List Int → Option (Int × List Int × List Int)) (x : Int × List Int × List Int × List Int × List Int) : f57.s0 K rec x = roundL (getA tys) (tabSp (f57.tab K)) 71 0 (f57.lp K) 400 f57.s0.b f57.s0.h f57.s0.ho f57.s0.shp f57.s0.inX f57.s0.inY rec x := by kernel_rfl
theorem f57.s0.lok (K : Nat) : LoopsOK Try.prog 71 0 (f57.lp K) f57.s0.b := loops_ok (by
  have h : loopsIn (f57.lp K) f57.s0.b = [] := by kernel_rfl
  rw [h]; simp)
theorem f57.s0.ok (K : Nat) : SummOK Try.prog 71 0 (summOf (iter (f57.s0 K) K) f57.s0.inX f57.s0.des) f57.s0.b :=
  loop_ok mix tys_ok (f57.tabOK K) (h := f57.s0.h) (ho := f57.s0.ho) (shp := f57.s0.shp) (inX := f57.s0.inX) (des := f57.s0.des) (out := f57.s0.out) (inY := f57.s0.inY) (fuel := 400)
    (by intro st x h; unfold f57.s0.inX at h; split at h <;> simp at h; subst h; rfl)
    (by intro e st y h; unfold f57.s0.inY at h; split at h <;> simp at h <;> subst h <;> rfl)
    f57.s0.desOK (f57.s0.lok K) (f57.s0 K) (f57.s0.eq K) K
theorem f57.loops (K : Nat) : LoopsOK Try.prog 71 0 (f57.lp K) f57.c := loops_ok (by
  have h : loopsIn (f57.lp K) f57.c = [(0, f57.s0.b)] := by kernel_rfl
  rw [h]
  intro p hp
  simp only [List.mem_cons, List.not_mem_nil, or_false] at hp
  rcases hp with rfl
  · exact ⟨_, rfl, (f57.s0.ok K)⟩)
def f57.T (K : Nat) (a0 : List Int) (a1 : List Int) : Option (List Int) :=
  bif (eqL 4 a0 [0, 0, 0, 0] && true) then
    some a1
  else
    (iter (f57.s0 K) K (0, a0, a1, [0, 0, 0, 0], [0, 0, 0, 0])).bind fun y29 =>
    (f39.F K (y29.2.1, y29.1)).bind fun y30 =>
    some y30
def f57.F (K : Nat) (x : List Int × List Int) : Option (List Int) := f57.T K x.1 x.2
def f57.av (x : List Int × List Int) : List VV := [.agg [.ints .u64 4 x.1], .agg [.ints .u64 4 x.2]]
def f57.bl (_x : List Int × List Int) : List (Nat × Blk) := []
def f57.inA : VS → Option (List Int × List Int)
  | ⟨[(0, .agg [.ints .u64 4 a0]), (1, .agg [.ints .u64 4 a1])], [], 0⟩ => some (a0, a1)
  | _ => none
def f57.o0 (y : List Int) : VS := ⟨[(0, .agg [.ints .u64 4 y])], [], 0⟩
def f57.des : ∀ α : Type, (List Int) → (VS → Option α) → Option α := (dv1 f57.o0)
def f57.out : List Int → VS := f57.o0
def f57.inR : VS → Option (List Int)
  | ⟨[(0, .agg [.ints .u64 4 y])], [], 0⟩ => some y
  | _ => none
noncomputable def f57.E (K : Nat) : Entry := genE 0 f57.inA (f57.F K) f57.des
theorem f57.eq (K : Nat) (x : List Int × List Int) : f57.F K x = xrun (getA tys) (tabSp (f57.tab K)) Try.f57.ntmps 0 (f57.lp K) 400 f57.c ⟨initL 0 (f57.av x), f57.bl x, 0⟩ (contF (getA tys) 0 Try.f57.results.toList f57.inR) := by kernel_rfl
theorem f57.ok (K : Nat) : EntryOK Try.prog 57 (f57.E K) :=
  gen_ok mix tys_ok (f57.tabOK K) Try.func57 (by kernel_rfl : Try.f57.body = some f57.c) (by kernel_rfl) (f57.loops K) (av := f57.av) (bl := f57.bl) (out := f57.out) (fuel := 400)
    (by intro s x h; unfold f57.inA at h; split at h <;> simp at h; subst h; rfl) (fun _ => Nat.le_of_ble_eq_true rfl)
    (by intro s y h; unfold f57.inR at h; split at h <;> simp at h <;> subst h <;> rfl) (fun _ _ _ => rfl) (f57.eq K)
end Go.Proofs

namespace Go.Proofs
open Go.VM
/-! ### burrow/burrowlaw03.DividesReckoned -/
noncomputable def f10.c : Code := bodyOf Try.f10
def f10.lp (_ : Nat) : Nat → Option (Hint × Summ) := fun _ => none
noncomputable def f10.tab (K : Nat) : List (Nat × Entry) := [(52, (f52.E K)), (53, (f53.E K)), (54, (f54.E K)), (55, (f55.E K)), (56, (f56.E K)), (57, (f57.E K))]
theorem f10.tabOK (K : Nat) : SpecOK Try.prog (tabSp (f10.tab K)) := tab_ok ((tab_cons (f52.ok K) (tab_cons (f53.ok K) (tab_cons (f54.ok K) (tab_cons (f55.ok K) (tab_cons (f56.ok K) (tab_cons (f57.ok K) tab_nil)))))))
theorem f10.loops (K : Nat) : LoopsOK Try.prog 77 0 (f10.lp K) f10.c := loops_ok (by
  have h : loopsIn (f10.lp K) f10.c = [] := by kernel_rfl
  rw [h]; simp)
def f10.T (K : Nat) (a0 : List Int) (a1 : List Int) (a2 : List Int) : Option (Bool) :=
  (f52.F K (a0, a1)).bind fun y1 =>
  (f53.F K (a0, a1)).bind fun y2 =>
  (f54.F K (a0, a1, a2)).bind fun y3 =>
  (f55.F K (a0, a1, a2)).bind fun y4 =>
  bif (eqL 4 y1.1 y2.1 && true) then
    bif (eqL 4 y1.2.1 y2.2.1 && true) then
      bif (y1.2.2 == y2.2.2) then
        bif (eqL 4 y3.1 y4.1 && true) then
          bif (y3.2 == y4.2) then
            (f56.F K (a0, a1)).bind fun y10 =>
            (f57.F K (a0, a1)).bind fun y11 =>
            some (eqL 4 y10 y11 && true)
          else
            some false
        else
          some false
      else
        some false
    else
      some false
  else
    some false
def f10.F (K : Nat) (x : List Int × List Int × List Int) : Option (Bool) := f10.T K x.1 x.2.1 x.2.2
def f10.av (x : List Int × List Int × List Int) : List VV := [.agg [.ints .u64 4 x.1], .agg [.ints .u64 4 x.2.1], .agg [.ints .u64 4 x.2.2]]
def f10.bl (_x : List Int × List Int × List Int) : List (Nat × Blk) := []
def f10.inA : VS → Option (List Int × List Int × List Int)
  | ⟨[(0, .agg [.ints .u64 4 a0]), (1, .agg [.ints .u64 4 a1]), (2, .agg [.ints .u64 4 a2])], [], 0⟩ => some (a0, a1, a2)
  | _ => none
def f10.o0 (y : Bool) : VS := ⟨[(0, .bool y)], [], 0⟩
def f10.des : ∀ α : Type, Bool → (VS → Option α) → Option α := (dv1 f10.o0)
def f10.out : Bool → VS := f10.o0
def f10.inR : VS → Option (Bool)
  | ⟨[(0, .bool y)], [], 0⟩ => some y
  | _ => none
noncomputable def f10.E (K : Nat) : Entry := genE 0 f10.inA (f10.F K) f10.des
theorem f10.eq (K : Nat) (x : List Int × List Int × List Int) : f10.F K x = xrun (getA tys) (tabSp (f10.tab K)) Try.f10.ntmps 0 (f10.lp K) 400 f10.c ⟨initL 0 (f10.av x), f10.bl x, 0⟩ (contF (getA tys) 0 Try.f10.results.toList f10.inR) := by kernel_rfl
theorem f10.ok (K : Nat) : EntryOK Try.prog 10 (f10.E K) :=
  gen_ok mix tys_ok (f10.tabOK K) Try.func10 (by kernel_rfl : Try.f10.body = some f10.c) (by kernel_rfl) (f10.loops K) (av := f10.av) (bl := f10.bl) (out := f10.out) (fuel := 400)
    (by intro s x h; unfold f10.inA at h; split at h <;> simp at h; subst h; rfl) (fun _ => Nat.le_of_ble_eq_true rfl)
    (by intro s y h; unfold f10.inR at h; split at h <;> simp at h <;> subst h <;> rfl) (fun _ _ _ => rfl) (f10.eq K)
end Go.Proofs
