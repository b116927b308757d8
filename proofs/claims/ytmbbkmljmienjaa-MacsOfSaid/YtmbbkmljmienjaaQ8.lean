/- Plain laws: lemmas that hold with no condition but those that each states. -/
import Derived.Test.YtmbbkmljmienjaaQ3
import Derived.Test.YtmbbkmljmienjaaQ7
import Derived.Laws.Strings
namespace Go.Proofs
open Go.VM
abbrev f52.Ty0 := Nat × Int × Nat × List Int × List Int × Nat × List Int × List Int × List Int
abbrev f52.Ty1 := Nat × Int × Int × Nat × List Int × List Int × Nat × List Int
abbrev f52.Ty2 := Nat × Nat × Nat × List Int × List Int × Nat × List Int
abbrev f52.Ty3 := Int × Nat × List Int × List Int × List Int × List Int
abbrev f52.Ty4 := Nat × Nat × List Int × List Int × Nat × List Int
abbrev f52.Ty5 := Nat × List Int × List Int × List Int
abbrev f52.Ty6 := List Int × Nat × List Int
abbrev f52.Ty7 := Nat × Nat × List Int
noncomputable def f52.c : Code := bodyOf Try.f52
def f52.s0t (_K : Nat) (rec : f52.Ty2 → Option (f52.Ty2)) (t0 : Nat) (t3 : Nat) (b0_0 : Nat) (b0_1 : List Int) (b2 : List Int) (b3_0 : Nat) (b3_1 : List Int) : Option (f52.Ty2) :=
  bif ((Int.tmod ((t3 : Nat) : Int) 64) != 56) then
    bif (Nat.ble t3 b3_0 && (fitB ((t3 + 1) * 1))) then
      rec (t0, (t3 + 1), b0_0, b0_1, b2, (t3 + 1), ((padT b3_1 t3) ++ [0]))
    else
      none
  else
    some (t0, t3, b0_0, b0_1, b2, b3_0, b3_1)
def f52.s0 (K : Nat) (rec : f52.Ty2 → Option (f52.Ty2)) (x : f52.Ty2) : Option (f52.Ty2) := f52.s0t K rec x.1 x.2.1 x.2.2.1 x.2.2.2.1 x.2.2.2.2.1 x.2.2.2.2.2.1 x.2.2.2.2.2.2
noncomputable def f52.s0.b : Code := (findLoop 0 f52.c).getD .skip
def f52.s0.h : Hint := { lv := [0, 2, 3] }
def f52.s0.ho : Hint := { lv := [0, 2, 3] }
def f52.s0.shp (x : f52.Ty2) : VS := ⟨[(0, .vw true 0 0 x.1 1), (2, .ptr 2 0), (3, .vec 3 0 x.2.1 4)], [(0, ([.ints .u8 x.2.2.1 x.2.2.2.1], 0, .ro)), (2, ([.ints .u8 32 x.2.2.2.2.1], 29, .norm)), (3, ([.ints .u8 x.2.2.2.2.2.1 x.2.2.2.2.2.2], 5, .vec 4))], 5⟩
def f52.s0.inX : VS → Option (f52.Ty2)
  | ⟨[(0, .vw true 0 0 t0 1), (2, .ptr 2 0), (3, .vec 3 0 t3 4)], [(0, ([.ints .u8 b0_0 b0_1], 0, .ro)), (2, ([.ints .u8 32 b2], 29, .norm)), (3, ([.ints .u8 b3_0 b3_1], 5, .vec 4))], 5⟩ => some (t0, t3, b0_0, b0_1, b2, b3_0, b3_1)
  | _ => none
def f52.s0.o0 (y : f52.Ty2) : VS := ⟨[(0, .vw true 0 0 y.1 1), (2, .ptr 2 0), (3, .vec 3 0 y.2.1 4)], [(0, ([.ints .u8 y.2.2.1 y.2.2.2.1], 0, .ro)), (2, ([.ints .u8 32 y.2.2.2.2.1], 29, .norm)), (3, ([.ints .u8 y.2.2.2.2.2.1 y.2.2.2.2.2.2], 5, .vec 4))], 5⟩
def f52.s0.des : ∀ α : Type, (f52.Ty2) → (Ex → VS → Option α) → Option α := (des1 (.exit 0) f52.s0.o0)
def f52.s0.out : f52.Ty2 → Ex × VS := (fun y => (.exit 0, f52.s0.o0 y))
theorem f52.s0.desOK : ∀ α y (k : Ex → VS → Option α), f52.s0.des α y k = k (f52.s0.out y).1 (f52.s0.out y).2 := (fun _ _ _ => rfl)
def f52.s0.inY : Ex → VS → Option (f52.Ty2)
  | .exit 0, ⟨[(0, .vw true 0 0 t0 1), (2, .ptr 2 0), (3, .vec 3 0 t3 4)], [(0, ([.ints .u8 b0_0 b0_1], 0, .ro)), (2, ([.ints .u8 32 b2], 29, .norm)), (3, ([.ints .u8 b3_0 b3_1], 5, .vec 4))], 5⟩ => some (t0, t3, b0_0, b0_1, b2, b3_0, b3_1)
  | _, _ => none
def f52.s2t (_K : Nat) (rec : f52.Ty1 → Option (f52.Ty4)) (t3 : Nat) (t4 : Int) (t5 : Int) (b0_0 : Nat) (b0_1 : List Int) (b2 : List Int) (b3_0 : Nat) (b3_1 : List Int) : Option (f52.Ty4) :=
  bif (decide (t5 < 8)) then
    let v12 := IntKind.wrap .i64 (56 - (IntKind.wrap .i64 (8 * t5)))
    bif decide (0 ≤ v12) then
      bif (Nat.ble t3 b3_0 && (fitB ((t3 + 1) * 1))) then
        rec ((t3 + 1), t4, (IntKind.wrap .i64 (t5 + 1)), b0_0, b0_1, b2, (t3 + 1), ((padT b3_1 t3) ++ [(IntKind.wrap .u8 (shiftI .shr .u64 t4 v12))]))
      else
        none
    else
      none
  else
    some (t3, b0_0, b0_1, b2, b3_0, b3_1)
def f52.s2 (K : Nat) (rec : f52.Ty1 → Option (f52.Ty4)) (x : f52.Ty1) : Option (f52.Ty4) := f52.s2t K rec x.1 x.2.1 x.2.2.1 x.2.2.2.1 x.2.2.2.2.1 x.2.2.2.2.2.1 x.2.2.2.2.2.2.1 x.2.2.2.2.2.2.2
noncomputable def f52.s2.b : Code := (findLoop 2 f52.c).getD .skip
def f52.s2.h : Hint := { lv := [2, 3, 4, 5] }
def f52.s2.ho : Hint := { lv := [2, 3] }
def f52.s2.shp (x : f52.Ty1) : VS := ⟨[(2, .ptr 2 0), (3, .vec 3 0 x.1 4), (4, .int .u64 x.2.1), (5, .int .i64 x.2.2.1)], [(0, ([.ints .u8 x.2.2.2.1 x.2.2.2.2.1], 0, .ro)), (2, ([.ints .u8 32 x.2.2.2.2.2.1], 29, .norm)), (3, ([.ints .u8 x.2.2.2.2.2.2.1 x.2.2.2.2.2.2.2], 5, .vec 4))], 5⟩
def f52.s2.inX : VS → Option (f52.Ty1)
  | ⟨[(2, .ptr 2 0), (3, .vec 3 0 t3 4), (4, .int .u64 t4), (5, .int .i64 t5)], [(0, ([.ints .u8 b0_0 b0_1], 0, .ro)), (2, ([.ints .u8 32 b2], 29, .norm)), (3, ([.ints .u8 b3_0 b3_1], 5, .vec 4))], 5⟩ => some (t3, t4, t5, b0_0, b0_1, b2, b3_0, b3_1)
  | _ => none
def f52.s2.o0 (y : f52.Ty4) : VS := ⟨[(2, .ptr 2 0), (3, .vec 3 0 y.1 4)], [(0, ([.ints .u8 y.2.1 y.2.2.1], 0, .ro)), (2, ([.ints .u8 32 y.2.2.2.1], 29, .norm)), (3, ([.ints .u8 y.2.2.2.2.1 y.2.2.2.2.2], 5, .vec 4))], 5⟩
def f52.s2.des : ∀ α : Type, (f52.Ty4) → (Ex → VS → Option α) → Option α := (des1 (.exit 2) f52.s2.o0)
def f52.s2.out : f52.Ty4 → Ex × VS := (fun y => (.exit 2, f52.s2.o0 y))
theorem f52.s2.desOK : ∀ α y (k : Ex → VS → Option α), f52.s2.des α y k = k (f52.s2.out y).1 (f52.s2.out y).2 := (fun _ _ _ => rfl)
def f52.s2.inY : Ex → VS → Option (f52.Ty4)
  | .exit 2, ⟨[(2, .ptr 2 0), (3, .vec 3 0 t3 4)], [(0, ([.ints .u8 b0_0 b0_1], 0, .ro)), (2, ([.ints .u8 32 b2], 29, .norm)), (3, ([.ints .u8 b3_0 b3_1], 5, .vec 4))], 5⟩ => some (t3, b0_0, b0_1, b2, b3_0, b3_1)
  | _, _ => none
def f52.s4t (K : Nat) (rec : f52.Ty0 → Option (f52.Ty5)) (t3 : Nat) (t8 : Int) (b0_0 : Nat) (b0_1 : List Int) (b2 : List Int) (b3_0 : Nat) (b3_1 : List Int) (b5 : List Int) (b6 : List Int) : Option (f52.Ty5) :=
  bif (decide (t8 < ((t3 : Nat) : Int))) then
    let v21 := IntKind.wrap .i64 (t8 + 64)
    bif ((decide (0 ≤ v21 ∧ v21 ≤ ((t3 : Nat) : Int)) && (decide (0 ≤ t8 ∧ t8 ≤ ((Int.toNat v21 : Nat) : Int)))) && (Nat.ble (0 + t3) b3_0)) then
      let v22 := 0 + (Int.toNat t8)
      let v23 := (Int.toNat v21) - (Int.toNat t8)
      bif ((Nat.ble (v22 + v23) b3_0 && true) && true) then
        (f80.F K (b5, v23, 64, v23, (subI b3_1 v22 v23), 64, (subI b6 0 64))).bind fun y24 =>
        rec (t3, (IntKind.wrap .i64 (t8 + 64)), b0_0, b0_1, b2, b3_0, b3_1, y24.1, b6)
      else
        none
    else
      none
  else
    some (b0_0, b0_1, b2, b5)
def f52.s4 (K : Nat) (rec : f52.Ty0 → Option (f52.Ty5)) (x : f52.Ty0) : Option (f52.Ty5) := f52.s4t K rec x.1 x.2.1 x.2.2.1 x.2.2.2.1 x.2.2.2.2.1 x.2.2.2.2.2.1 x.2.2.2.2.2.2.1 x.2.2.2.2.2.2.2.1 x.2.2.2.2.2.2.2.2
noncomputable def f52.s4.b : Code := (findLoop 4 f52.c).getD .skip
def f52.s4.h : Hint := { lv := [2, 3, 6, 7, 8] }
def f52.s4.ho : Hint := { lv := [2, 6] }
def f52.s4.shp (x : f52.Ty0) : VS := ⟨[(2, .ptr 2 0), (3, .vec 3 0 x.1 4), (6, .ptr 5 0), (7, .sl 6 0 64 64), (8, .int .i64 x.2.1)], [(0, ([.ints .u8 x.2.2.1 x.2.2.2.1], 0, .ro)), (2, ([.ints .u8 32 x.2.2.2.2.1], 29, .norm)), (3, ([.ints .u8 x.2.2.2.2.2.1 x.2.2.2.2.2.2.1], 5, .vec 4)), (5, ([.ints .u32 8 x.2.2.2.2.2.2.2.1], 112, .norm)), (6, ([.ints .u32 64 x.2.2.2.2.2.2.2.2], 111, .norm))], 7⟩
def f52.s4.inX : VS → Option (f52.Ty0)
  | ⟨[(2, .ptr 2 0), (3, .vec 3 0 t3 4), (6, .ptr 5 0), (7, .sl 6 0 64 64), (8, .int .i64 t8)], [(0, ([.ints .u8 b0_0 b0_1], 0, .ro)), (2, ([.ints .u8 32 b2], 29, .norm)), (3, ([.ints .u8 b3_0 b3_1], 5, .vec 4)), (5, ([.ints .u32 8 b5], 112, .norm)), (6, ([.ints .u32 64 b6], 111, .norm))], 7⟩ => some (t3, t8, b0_0, b0_1, b2, b3_0, b3_1, b5, b6)
  | _ => none
def f52.s4.o0 (y : f52.Ty5) : VS := ⟨[(2, .ptr 2 0), (6, .ptr 3 0)], [(0, ([.ints .u8 y.1 y.2.1], 0, .ro)), (2, ([.ints .u8 32 y.2.2.1], 29, .norm)), (3, ([.ints .u32 8 y.2.2.2], 112, .norm))], 4⟩
def f52.s4.des : ∀ α : Type, (f52.Ty5) → (Ex → VS → Option α) → Option α := (des1 (.exit 4) f52.s4.o0)
def f52.s4.out : f52.Ty5 → Ex × VS := (fun y => (.exit 4, f52.s4.o0 y))
theorem f52.s4.desOK : ∀ α y (k : Ex → VS → Option α), f52.s4.des α y k = k (f52.s4.out y).1 (f52.s4.out y).2 := (fun _ _ _ => rfl)
def f52.s4.inY : Ex → VS → Option (f52.Ty5)
  | .exit 4, ⟨[(2, .ptr 2 0), (6, .ptr 3 0)], [(0, ([.ints .u8 b0_0 b0_1], 0, .ro)), (2, ([.ints .u8 32 b2], 29, .norm)), (3, ([.ints .u32 8 b3], 112, .norm))], 4⟩ => some (b0_0, b0_1, b2, b3)
  | _, _ => none
def f52.s6t (_K : Nat) (rec : f52.Ty3 → Option (f52.Ty5)) (t10 : Int) (b0_0 : Nat) (b0_1 : List Int) (b2 : List Int) (b3 : List Int) (b4 : List Int) : Option (f52.Ty5) :=
  bif (decide (t10 < 32)) then
    let v28 := IntKind.wrap .i64 (Int.tdiv t10 4)
    bif decide (0 ≤ v28 ∧ v28 < 8) then
      let v33 := IntKind.wrap .i64 (24 - (IntKind.wrap .i64 (8 * (Int.tmod t10 4))))
      bif decide (0 ≤ v33) then
        bif decide (0 ≤ t10 ∧ t10 < 32) then
          rec ((IntKind.wrap .i64 (t10 + 1)), b0_0, b0_1, b2, b3, (setD b4 (Int.toNat t10) (IntKind.wrap .u8 (shiftI .shr .u32 (List.getD b3 (Int.toNat v28) 0) v33))))
        else
          none
      else
        none
    else
      none
  else
    some (b0_0, b0_1, b2, b4)
def f52.s6 (K : Nat) (rec : f52.Ty3 → Option (f52.Ty5)) (x : f52.Ty3) : Option (f52.Ty5) := f52.s6t K rec x.1 x.2.1 x.2.2.1 x.2.2.2.1 x.2.2.2.2.1 x.2.2.2.2.2
noncomputable def f52.s6.b : Code := (findLoop 6 f52.c).getD .skip
def f52.s6.h : Hint := { lv := [2, 6, 9, 10] }
def f52.s6.ho : Hint := { lv := [2, 9] }
def f52.s6.shp (x : f52.Ty3) : VS := ⟨[(2, .ptr 2 0), (6, .ptr 3 0), (9, .ptr 4 0), (10, .int .i64 x.1)], [(0, ([.ints .u8 x.2.1 x.2.2.1], 0, .ro)), (2, ([.ints .u8 32 x.2.2.2.1], 29, .norm)), (3, ([.ints .u32 8 x.2.2.2.2.1], 112, .norm)), (4, ([.ints .u8 32 x.2.2.2.2.2], 29, .norm))], 5⟩
def f52.s6.inX : VS → Option (f52.Ty3)
  | ⟨[(2, .ptr 2 0), (6, .ptr 3 0), (9, .ptr 4 0), (10, .int .i64 t10)], [(0, ([.ints .u8 b0_0 b0_1], 0, .ro)), (2, ([.ints .u8 32 b2], 29, .norm)), (3, ([.ints .u32 8 b3], 112, .norm)), (4, ([.ints .u8 32 b4], 29, .norm))], 5⟩ => some (t10, b0_0, b0_1, b2, b3, b4)
  | _ => none
def f52.s6.o0 (y : f52.Ty5) : VS := ⟨[(2, .ptr 2 0), (9, .ptr 3 0)], [(0, ([.ints .u8 y.1 y.2.1], 0, .ro)), (2, ([.ints .u8 32 y.2.2.1], 29, .norm)), (3, ([.ints .u8 32 y.2.2.2], 29, .norm))], 4⟩
def f52.s6.des : ∀ α : Type, (f52.Ty5) → (Ex → VS → Option α) → Option α := (des1 (.exit 6) f52.s6.o0)
def f52.s6.out : f52.Ty5 → Ex × VS := (fun y => (.exit 6, f52.s6.o0 y))
theorem f52.s6.desOK : ∀ α y (k : Ex → VS → Option α), f52.s6.des α y k = k (f52.s6.out y).1 (f52.s6.out y).2 := (fun _ _ _ => rfl)
def f52.s6.inY : Ex → VS → Option (f52.Ty5)
  | .exit 6, ⟨[(2, .ptr 2 0), (9, .ptr 3 0)], [(0, ([.ints .u8 b0_0 b0_1], 0, .ro)), (2, ([.ints .u8 32 b2], 29, .norm)), (3, ([.ints .u8 32 b3], 29, .norm))], 4⟩ => some (b0_0, b0_1, b2, b3)
  | _, _ => none
def f52.lp (K : Nat) : Nat → Option (Hint × Summ) := tabLp [(0, f52.s0.h, summOf (iter (f52.s0 K) K) f52.s0.inX f52.s0.des), (2, f52.s2.h, summOf (iter (f52.s2 K) K) f52.s2.inX f52.s2.des), (4, f52.s4.h, summOf (iter (f52.s4 K) K) f52.s4.inX f52.s4.des), (6, f52.s6.h, summOf (iter (f52.s6 K) K) f52.s6.inX f52.s6.des)]
noncomputable def f52.tab (K : Nat) : List (Nat × Entry) := [(79, (f79.E K)), (80, (viewE [(1, .u8), (2, .u32)] (f80.E K)))]
theorem f52.tabOK (K : Nat) : SpecOK Try.prog (tabSp (f52.tab K)) := tab_ok ((tab_cons (f79.ok K) (tab_cons (view_ok (f80.ok K)) tab_nil)))
theorem f52.s0.eq (K : Nat) (rec : f52.Ty2 → Option (f52.Ty2)) (x : f52.Ty2) : f52.s0 K rec x = roundL (getA tys) (tabSp (f52.tab K)) 72 2 (f52.lp K) 400 f52.s0.b f52.s0.h f52.s0.ho f52.s0.shp f52.s0.inX f52.s0.inY rec x := by kernel_rfl
theorem f52.s0.lok (K : Nat) : LoopsOK Try.prog 72 2 (f52.lp K) f52.s0.b := loops_ok (by
  have h : loopsIn (f52.lp K) f52.s0.b = [] := by kernel_rfl
  rw [h]; simp)
theorem f52.s0.ok (K : Nat) : SummOK Try.prog 72 2 (summOf (iter (f52.s0 K) K) f52.s0.inX f52.s0.des) f52.s0.b :=
  loop_ok mix tys_ok (f52.tabOK K) (h := f52.s0.h) (ho := f52.s0.ho) (shp := f52.s0.shp) (inX := f52.s0.inX) (des := f52.s0.des) (out := f52.s0.out) (inY := f52.s0.inY) (fuel := 400)
    (by intro st x h; unfold f52.s0.inX at h; split at h <;> simp at h; subst h; rfl)
    (by intro e st y h; unfold f52.s0.inY at h; split at h <;> simp at h <;> subst h <;> rfl)
    f52.s0.desOK (f52.s0.lok K) (f52.s0 K) (f52.s0.eq K) K
theorem f52.s2.eq (K : Nat) (rec : f52.Ty1 → Option (f52.Ty4)) (x : f52.Ty1) : f52.s2 K rec x = roundL (getA tys) (tabSp (f52.tab K)) 72 2 (f52.lp K) 400 f52.s2.b f52.s2.h f52.s2.ho f52.s2.shp f52.s2.inX f52.s2.inY rec x := by kernel_rfl
theorem f52.s2.lok (K : Nat) : LoopsOK Try.prog 72 2 (f52.lp K) f52.s2.b := loops_ok (by
  have h : loopsIn (f52.lp K) f52.s2.b = [] := by kernel_rfl
  rw [h]; simp)
theorem f52.s2.ok (K : Nat) : SummOK Try.prog 72 2 (summOf (iter (f52.s2 K) K) f52.s2.inX f52.s2.des) f52.s2.b :=
  loop_ok mix tys_ok (f52.tabOK K) (h := f52.s2.h) (ho := f52.s2.ho) (shp := f52.s2.shp) (inX := f52.s2.inX) (des := f52.s2.des) (out := f52.s2.out) (inY := f52.s2.inY) (fuel := 400)
    (by intro st x h; unfold f52.s2.inX at h; split at h <;> simp at h; subst h; rfl)
    (by intro e st y h; unfold f52.s2.inY at h; split at h <;> simp at h <;> subst h <;> rfl)
    f52.s2.desOK (f52.s2.lok K) (f52.s2 K) (f52.s2.eq K) K
theorem f52.s4.eq (K : Nat) (rec : f52.Ty0 → Option (f52.Ty5)) (x : f52.Ty0) : f52.s4 K rec x = roundL (getA tys) (tabSp (f52.tab K)) 72 2 (f52.lp K) 400 f52.s4.b f52.s4.h f52.s4.ho f52.s4.shp f52.s4.inX f52.s4.inY rec x := by kernel_rfl
theorem f52.s4.lok (K : Nat) : LoopsOK Try.prog 72 2 (f52.lp K) f52.s4.b := loops_ok (by
  have h : loopsIn (f52.lp K) f52.s4.b = [] := by kernel_rfl
  rw [h]; simp)
theorem f52.s4.ok (K : Nat) : SummOK Try.prog 72 2 (summOf (iter (f52.s4 K) K) f52.s4.inX f52.s4.des) f52.s4.b :=
  loop_ok mix tys_ok (f52.tabOK K) (h := f52.s4.h) (ho := f52.s4.ho) (shp := f52.s4.shp) (inX := f52.s4.inX) (des := f52.s4.des) (out := f52.s4.out) (inY := f52.s4.inY) (fuel := 400)
    (by intro st x h; unfold f52.s4.inX at h; split at h <;> simp at h; subst h; rfl)
    (by intro e st y h; unfold f52.s4.inY at h; split at h <;> simp at h <;> subst h <;> rfl)
    f52.s4.desOK (f52.s4.lok K) (f52.s4 K) (f52.s4.eq K) K
theorem f52.s6.eq (K : Nat) (rec : f52.Ty3 → Option (f52.Ty5)) (x : f52.Ty3) : f52.s6 K rec x = roundL (getA tys) (tabSp (f52.tab K)) 72 2 (f52.lp K) 400 f52.s6.b f52.s6.h f52.s6.ho f52.s6.shp f52.s6.inX f52.s6.inY rec x := by kernel_rfl
theorem f52.s6.lok (K : Nat) : LoopsOK Try.prog 72 2 (f52.lp K) f52.s6.b := loops_ok (by
  have h : loopsIn (f52.lp K) f52.s6.b = [] := by kernel_rfl
  rw [h]; simp)
theorem f52.s6.ok (K : Nat) : SummOK Try.prog 72 2 (summOf (iter (f52.s6 K) K) f52.s6.inX f52.s6.des) f52.s6.b :=
  loop_ok mix tys_ok (f52.tabOK K) (h := f52.s6.h) (ho := f52.s6.ho) (shp := f52.s6.shp) (inX := f52.s6.inX) (des := f52.s6.des) (out := f52.s6.out) (inY := f52.s6.inY) (fuel := 400)
    (by intro st x h; unfold f52.s6.inX at h; split at h <;> simp at h; subst h; rfl)
    (by intro e st y h; unfold f52.s6.inY at h; split at h <;> simp at h <;> subst h <;> rfl)
    f52.s6.desOK (f52.s6.lok K) (f52.s6 K) (f52.s6.eq K) K
theorem f52.loops (K : Nat) : LoopsOK Try.prog 72 2 (f52.lp K) f52.c := loops_ok (by
  have h : loopsIn (f52.lp K) f52.c = [(0, f52.s0.b), (2, f52.s2.b), (4, f52.s4.b), (6, f52.s6.b)] := by kernel_rfl
  rw [h]
  intro p hp
  simp only [List.mem_cons, List.not_mem_nil, or_false] at hp
  rcases hp with rfl | rfl | rfl | rfl
  · exact ⟨_, rfl, (f52.s0.ok K)⟩
  · exact ⟨_, rfl, (f52.s2.ok K)⟩
  · exact ⟨_, rfl, (f52.s4.ok K)⟩
  · exact ⟨_, rfl, (f52.s6.ok K)⟩)
def f52.T (K : Nat) (a0 : Nat) (m0_0 : Nat) (m0_1 : List Int) : Option (f52.Ty6) :=
  bif (Nat.ble (0 + a0) m0_0 && (fitB (a0 * 1))) then
    bif (Nat.ble a0 a0 && (fitB ((a0 + 1) * 1))) then
      (iter (f52.s0 K) K (a0, (a0 + 1), m0_0, m0_1, [0, 0, 0, 0, 0, 0, 0, 0, 0, 0, 0, 0, 0, 0, 0, 0, 0, 0, 0, 0, 0, 0, 0, 0, 0, 0, 0, 0, 0, 0, 0, 0], (a0 + 1), ((padT (subI m0_1 0 a0) a0) ++ [128]))).bind fun y6 =>
      (iter (f52.s2 K) K (y6.2.1, (IntKind.wrap .u64 (8 * (IntKind.wrap .u64 ((y6.1 : Nat) : Int)))), 0, y6.2.2.1, y6.2.2.2.1, y6.2.2.2.2.1, y6.2.2.2.2.2.1, y6.2.2.2.2.2.2)).bind fun y17 =>
      (f79.F K ()).bind fun y18 =>
      (iter (f52.s4 K) K (y17.1, 0, y17.2.1, y17.2.2.1, y17.2.2.2.1, y17.2.2.2.2.1, y17.2.2.2.2.2, [1779033703, 3144134277, 1013904242, 2773480762, 1359893119, 2600822924, 528734635, 1541459225], y18)).bind fun y26 =>
      (iter (f52.s6 K) K (0, y26.1, y26.2.1, y26.2.2.1, y26.2.2.2, [0, 0, 0, 0, 0, 0, 0, 0, 0, 0, 0, 0, 0, 0, 0, 0, 0, 0, 0, 0, 0, 0, 0, 0, 0, 0, 0, 0, 0, 0, 0, 0])).bind fun y39 =>
      some (y39.2.2.2, y39.1, y39.2.1)
    else
      none
  else
    none
def f52.F (K : Nat) (x : f52.Ty7) : Option (f52.Ty6) := f52.T K x.1 x.2.1 x.2.2
def f52.av (x : f52.Ty7) : List VV := [.vw true 0 0 x.1 1]
def f52.bl (x : f52.Ty7) : List (Nat × Blk) := [(0, ([.ints .u8 x.2.1 x.2.2], 0, .ro))]
def f52.inA : VS → Option (f52.Ty7)
  | ⟨[(0, .vw true 0 0 a0 1)], [(0, ([.ints .u8 m0_0 m0_1], 0, .ro))], 2⟩ => some (a0, m0_0, m0_1)
  | _ => none
def f52.o0 (y : f52.Ty6) : VS := ⟨[(0, .agg [.ints .u8 32 y.1])], [(0, ([.ints .u8 y.2.1 y.2.2], 0, .ro))], 2⟩
def f52.des : ∀ α : Type, (f52.Ty6) → (VS → Option α) → Option α := (dv1 f52.o0)
def f52.out : f52.Ty6 → VS := f52.o0
def f52.inR : VS → Option (f52.Ty6)
  | ⟨[(0, .agg [.ints .u8 32 y])], [(0, ([.ints .u8 z0_0 z0_1], 0, .ro))], 2⟩ => some (y, z0_0, z0_1)
  | _ => none
noncomputable def f52.E (K : Nat) : Entry := genE 2 f52.inA (f52.F K) f52.des
theorem f52.eq (K : Nat) (x : f52.Ty7) : f52.F K x = xrun (getA tys) (tabSp (f52.tab K)) Try.f52.ntmps 2 (f52.lp K) 400 f52.c ⟨initL 0 (f52.av x), f52.bl x, 2⟩ (contF (getA tys) 2 Try.f52.results.toList f52.inR) := by kernel_rfl
theorem f52.ok (K : Nat) : EntryOK Try.prog 52 (f52.E K) :=
  gen_ok mix tys_ok (f52.tabOK K) Try.func52 (by kernel_rfl : Try.f52.body = some f52.c) (by kernel_rfl) (f52.loops K) (av := f52.av) (bl := f52.bl) (out := f52.out) (fuel := 400)
    (by intro s x h; unfold f52.inA at h; split at h <;> simp at h; subst h; rfl) (fun _ => Nat.le_of_ble_eq_true rfl)
    (by intro s y h; unfold f52.inR at h; split at h <;> simp at h <;> subst h <;> rfl) (fun _ _ _ => rfl) (f52.eq K)
end Go.Proofs

namespace Go.Proofs
open Go.VM
theorem f80.third (K : Nat) (b k4 z : List Int) (s : List Int) (hK : 64 < K) :
    iter (f80.s4 K) K (64, 0, 64, b, 64, Sh.consts, k4, z, Rf.tab b 64, s) = some (64, b, 64, Sh.consts, k4, z, Rf.rounds s b 64) := by
  have := iter_for (stp := f80.s4 K) (N := 64) (fun i => (64, (i : Int), 64, b, 64, Sh.consts, k4, z, Rf.tab b 64, Rf.rounds s b i)) (y := some (64, b, 64, Sh.consts, k4, z, Rf.rounds s b 64)) ?_ ?_ hK
  · exact this
  · intro i hi rec
    simp only [f80.s4, f80.s4t]
    rw [decide_eq_true (show (i : Int) < 64 by omega), cond_t]
    have r : ∀ (x : Int) (n : Nat), 1 ≤ n → n ≤ 31 → f97.F K (x, (n : Int)) = some (Rf.round x n) := fun x n h1 h2 => f97.spec K x n h1 h2
    rw [show ((6 : Int)) = ((6 : Nat) : Int) from rfl, show ((11 : Int)) = ((11 : Nat) : Int) from rfl, show ((25 : Int)) = ((25 : Nat) : Int) from rfl, r _ 6 (by omega) (by omega), bind_s, r _ 11 (by omega) (by omega), bind_s, r _ 25 (by omega) (by omega), bind_s,
      decide_eq_true (show (0 : Int) ≤ (i : Int) ∧ (i : Int) < ((64 : Nat) : Int) by omega), cond_t]
    simp only [Int.toNat_natCast, Nat.zero_add]
    rw [show Nat.blt i 64 = true from by simp [Nat.blt_eq]; omega, cond_t, decide_eq_true (show (0 : Int) ≤ (i : Int) ∧ (i : Int) < 64 by omega), cond_t,
      show ((2 : Int)) = ((2 : Nat) : Int) from rfl, show ((13 : Int)) = ((13 : Nat) : Int) from rfl, show ((22 : Int)) = ((22 : Nat) : Int) from rfl, r _ 2 (by omega) (by omega), bind_s, r _ 13 (by omega) (by omega), bind_s, r _ 22 (by omega) (by omega), bind_s, Rf.tab_at b 64 i (by omega) (by omega), wrap_i _ (by omega) (by omega)]
    rfl
  · intro rec
    simp only [f80.s4, f80.s4t]
    rfl
theorem f80.fourth (K : Nat) (b s v z : List Int) (k2 : Nat) (k2l : List Int) (hK : 8 < K) :
    iter (f80.s6 K) K (0, 64, b, k2, k2l, s, z, v) = some (64, b, k2, k2l, z, Sh.added s v 8) := by
  have := iter_for (stp := f80.s6 K) (N := 8) (fun i => ((i : Int), 64, b, k2, k2l, s, z, Sh.added s v i)) (y := some (64, b, k2, k2l, z, Sh.added s v 8)) ?_ ?_ hK
  · exact this
  · intro i hi rec
    simp only [f80.s6, f80.s6t]
    rw [decide_eq_true (show (i : Int) < 8 by omega), cond_t, decide_eq_true (show (0 : Int) ≤ (i : Int) ∧ (i : Int) < 8 by omega), cond_t, cond_t, cond_t, Int.toNat_natCast, wrap_i _ (by omega) (by omega)]
    rfl
  · intro rec
    simp only [f80.s6, f80.s6t]
    rfl
theorem f80.spec (K : Nat) (s b : List Int) (hs : s.length = 8) (hb : b.length = 64) (ho : octets b) (hK : 64 < K) :
    f80.F K (s, 64, 64, 64, b, 64, Sh.consts) = some (Sh.comp s b, 64, b, 64, Sh.consts) := by
  simp only [f80.F, f80.T]
  have h1 := f80.first K 64 b s [0, 0, 0, 0, 0, 0, 0, 0] ho hb (by omega) 64 Sh.consts
  rw [show iter (f80.s0 K) K (64, 64, 0, 64, b, 64, Sh.consts, s, [0, 0, 0, 0, 0, 0, 0, 0], [0, 0, 0, 0, 0, 0, 0, 0, 0, 0, 0, 0, 0, 0, 0, 0, 0, 0, 0, 0, 0, 0, 0, 0, 0, 0, 0, 0, 0, 0, 0, 0, 0, 0, 0, 0, 0, 0, 0, 0, 0, 0, 0, 0, 0, 0, 0, 0, 0, 0, 0, 0, 0, 0, 0, 0, 0, 0, 0, 0, 0, 0, 0, 0]) = _ from h1, bind_s]
  dsimp only
  rw [f80.second K 64 b s _ hK, bind_s]
  dsimp only
  rw [f80.third K b s _ s hK, bind_s]
  dsimp only
  rw [f80.fourth K b s _ _ 64 Sh.consts (by omega), bind_s]
  dsimp only
  rw [comp_same s b hs]
theorem added_len (v s : List Int) (hs : s.length = 8) : ∀ i, i ≤ 8 → (Sh.added v s i).length = 8
  | 0, _ => hs
  | i + 1, h => by
    have := added_len v s hs i (by omega)
    rw [Sh.added, length_setD (by omega)]; exact this
theorem rounds_len (s b : List Int) (hs : s.length = 8) (t : Nat) : (Rf.rounds s b t).length = 8 := (rounds_same s b hs t).2
theorem comp_len (s b : List Int) (hs : s.length = 8) : (Sh.comp s b).length = 8 := by
  rw [comp_same s b hs]; exact added_len _ _ (rounds_len s b hs 64) 8 (by omega)
theorem chain_len (m : List Int) : ∀ n, (Sh.chain m n).length = 8
  | 0 => rfl
  | n + 1 => comp_len _ _ (chain_len m n)
theorem f52.zeros (K n0 : Nat) (l0 z : List Int) (m : List Int) (a : Nat) (hm : m.length + 100 ≤ 140737488355328) (hK : 64 < K) :
    iter (f52.s0 K) K (a, m.length, n0, l0, z, m.length, m) = some (a, m.length + (119 - (m.length + 63) % 64) % 64, n0, l0, z, m.length + (119 - (m.length + 63) % 64) % 64, m ++ List.replicate ((119 - (m.length + 63) % 64) % 64) 0) := by
  generalize hN : (119 - (m.length + 63) % 64) % 64 = N
  have := iter_for (stp := f52.s0 K) (N := N) (fun i => (a, m.length + i, n0, l0, z, m.length + i, m ++ List.replicate i 0)) (y := some (a, m.length + N, n0, l0, z, m.length + N, m ++ List.replicate N 0)) ?_ ?_ (show N < K by omega)
  · simp only [Nat.add_zero, List.replicate_zero, List.append_nil] at this
    exact this
  · intro i hi rec
    simp only [f52.s0, f52.s0t]
    have e : Int.tmod ((m.length + i : Nat) : Int) 64 = (((m.length + i) % 64 : Nat) : Int) := tmod_nat _ 64
    rw [e, show ((((m.length + i) % 64 : Nat) : Int) != 56) = true from bne_iff_ne.2 (by omega), cond_t, ble_true (Nat.le_refl _), fitB_true (by omega), Bool.and_self, cond_t, padT_self _ (by simp), List.append_assoc, ← List.replicate_succ']
    rfl
  · intro rec
    simp only [f52.s0, f52.s0t]
    have e : Int.tmod ((m.length + N : Nat) : Int) 64 = (((m.length + N) % 64 : Nat) : Int) := tmod_nat _ 64
    rw [e, show ((((m.length + N) % 64 : Nat) : Int) != 56) = false from by rw [bne_eq_false_iff_eq]; omega, cond_f]
theorem f52.eight (K n0 : Nat) (l0 z : List Int) (m : List Int) (x : Nat) (hx : x < 18446744073709551616) (hm : m.length + 100 ≤ 140737488355328) (hK : 64 < K) :
    iter (f52.s2 K) K (m.length, (x : Int), 0, n0, l0, z, m.length, m) = some (m.length + 8, n0, l0, z, m.length + 8, m ++ be 8 x) := by
  have top : ∀ i, i < 8 → be (i + 1) (x / 256 ^ (7 - i)) = be i (x / 256 ^ (8 - i)) ++ [((x / 256 ^ (7 - i) % 256 : Nat) : Int)] := fun i hi => by
    rw [be, Nat.div_div_eq_div_mul, ← Nat.pow_succ, show (7 - i).succ = 8 - i by omega]
  have := iter_for (stp := f52.s2 K) (N := 8) (fun i => (m.length + i, (x : Int), (i : Int), n0, l0, z, m.length + i, m ++ be i (x / 256 ^ (8 - i)))) (y := some (m.length + 8, n0, l0, z, m.length + 8, m ++ be 8 x)) ?_ ?_ (show 8 < K by omega)
  · simp only [Nat.add_zero, be, List.append_nil] at this
    exact this
  · intro i hi rec
    simp only [f52.s2, f52.s2t]
    have e12 : IntKind.wrap .i64 (56 - (IntKind.wrap .i64 (8 * (i : Int)))) = ((56 - 8 * i : Nat) : Int) := by rw [wrap_i (8 * (i : Int)) (by omega) (by omega), wrap_i _ (by omega) (by omega)]; omega
    have sh : IntKind.wrap .u8 (shiftI .shr .u64 (x : Int) ((56 - 8 * i : Nat) : Int)) = ((x / 256 ^ (7 - i) % 256 : Nat) : Int) := by
      unfold shiftI
      dsimp only
      rw [Int.toNat_natCast, show min (56 - 8 * i) IntKind.u64.bits = 56 - 8 * i from Nat.min_eq_left (by show _ ≤ 64; omega), fdiv_nat, show (2 : Nat) ^ (56 - 8 * i) = 256 ^ (7 - i) by rw [show (256 : Nat) = 2 ^ 8 from rfl, ← Nat.pow_mul]; congr 1; omega]
      simp [IntKind.wrap, IntKind.signed, IntKind.bits]
    rw [decide_eq_true (show (i : Int) < 8 by omega), cond_t]
    simp only [e12]
    rw [decide_eq_true (show (0 : Int) ≤ ((56 - 8 * i : Nat) : Int) by omega), cond_t, ble_true (Nat.le_refl _), fitB_true (by omega), Bool.and_self, cond_t, padT_self _ (by simp [be_length]), sh, wrap_i _ (by omega) (by omega), List.append_assoc, show 8 - (i + 1) = 7 - i by omega, top i hi]
    rfl
  · intro rec
    simp only [f52.s2, f52.s2t]
    rw [show 8 - 8 = 0 from rfl, Nat.pow_zero, Nat.div_one]
    rfl
end Go.Proofs

namespace Go.Proofs
open Go.VM
theorem octets_drop {l : List Int} (h : octets l) (a b : Nat) : octets ((l.drop a).take b) := fun x hx => h x (List.mem_of_mem_drop (List.mem_of_mem_take hx))
theorem f52.blocks (K n0 : Nat) (l0 z : List Int) (m : List Int) (n : Nat) (hm : m.length = 64 * n) (ho : octets m) (hs : m.length ≤ 140737488355328) (hK : 64 + n < K) :
    iter (f52.s4 K) K (m.length, 0, n0, l0, z, m.length, m, Sh.init, Sh.consts) = some (n0, l0, z, Sh.chain m n) := by
  have := iter_for (stp := f52.s4 K) (N := n) (fun i => (m.length, ((64 * i : Nat) : Int), n0, l0, z, m.length, m, Sh.chain m i, Sh.consts)) (y := some (n0, l0, z, Sh.chain m n)) ?_ ?_ (show n < K by omega)
  · exact this
  · intro i hi rec
    simp only [f52.s4, f52.s4t]
    have e21 : IntKind.wrap .i64 (((64 * i : Nat) : Int) + 64) = ((64 * (i + 1) : Nat) : Int) := by rw [wrap_i _ (by omega) (by omega)]; omega
    rw [decide_eq_true (show ((64 * i : Nat) : Int) < ((m.length : Nat) : Int) by omega), cond_t]
    simp only [e21, Int.toNat_natCast]
    rw [decide_eq_true (show (0 : Int) ≤ ((64 * (i + 1) : Nat) : Int) ∧ ((64 * (i + 1) : Nat) : Int) ≤ ((m.length : Nat) : Int) by omega), decide_eq_true (show (0 : Int) ≤ ((64 * i : Nat) : Int) ∧ ((64 * i : Nat) : Int) ≤ ((64 * (i + 1) : Nat) : Int) by omega), Nat.zero_add, ble_true (Nat.le_refl _), Bool.and_self, Bool.and_self, cond_t,
      Nat.zero_add, show 64 * (i + 1) - 64 * i = 64 by omega, ble_true (show 64 * i + 64 ≤ m.length by omega), Bool.and_self, Bool.and_self, cond_t, subI_self Sh.consts (show _ = 64 from rfl), subI_cut m (64 * i) 64 (by omega)]
    rw [f80.spec K _ _ (chain_len m i) (by rw [List.length_take, List.length_drop]; omega) (octets_drop ho _ _) (by omega), bind_s]
    dsimp only
    rw [← show Sh.chain m (i + 1) = Sh.comp (Sh.chain m i) ((m.drop (64 * i)).take 64) from rfl]
  · intro rec
    simp only [f52.s4, f52.s4t]
    rw [decide_eq_false (show ¬ ((64 * n : Nat) : Int) < ((m.length : Nat) : Int) by omega), cond_f]
theorem added_range (v : List Int) (s : List Int) (hs : s.length = 8) : ∀ i, i ≤ 8 → ∀ k, k < i → 0 ≤ (Sh.added v s i).getD k 0 ∧ (Sh.added v s i).getD k 0 < 4294967296
  | 0, _, k, hk => absurd hk (Nat.not_lt_zero k)
  | i + 1, h, k, hk => by
    have hl := added_len v s hs i (by omega)
    rw [Sh.added, setD_at _ _ _ _ (by omega)]
    by_cases hki : k = i
    · rw [if_pos hki, wrap32_mod]; omega
    · rw [if_neg hki]; exact added_range v s hs i (by omega) k (by omega)
theorem chain_range (m : List Int) (n k : Nat) (hk : k < 8) : 0 ≤ (Sh.chain m n).getD k 0 ∧ (Sh.chain m n).getD k 0 < 4294967296 := by
  cases n with
  | zero =>
    have : ∀ k : Fin 8, 0 ≤ Sh.init.getD k.val 0 ∧ Sh.init.getD k.val 0 < 4294967296 := by decide
    exact this ⟨k, hk⟩
  | succ n =>
    rw [Sh.chain, comp_same _ _ (chain_len m n)]
    exact added_range _ _ (rounds_len _ _ (chain_len m n) 64) 8 (by omega) k hk
def Rf.dig (s : List Int) (i : Nat) : Int := (((s.getD (i / 4) 0).toNat / 256 ^ (3 - i % 4) % 256 : Nat) : Int)
def Rf.digs (s : List Int) (i : Nat) : List Int := (List.range 32).map fun k => if k < i then Rf.dig s k else 0
theorem Rf.digs_set (s : List Int) (i : Nat) (hi : i < 32) : setD (Rf.digs s i) i (Rf.dig s i) = Rf.digs s (i + 1) := by
  have hl : ∀ j, (Rf.digs s j).length = 32 := fun j => by simp [Rf.digs]
  refine ext_getD (by rw [length_setD (by rw [hl]; exact hi), hl, hl]) fun k hk => ?_
  rw [length_setD (by rw [hl]; exact hi), hl] at hk
  rw [setD_at _ _ _ _ (by rw [hl]; exact hi)]
  have g : ∀ j, (Rf.digs s j).getD k 0 = if k < j then Rf.dig s k else 0 := fun j => by simp [Rf.digs, List.getD_eq_getElem?_getD, hk]
  rw [g, g]
  by_cases h : k = i
  · subst h; rw [if_pos rfl, if_pos (by omega)]
  · rw [if_neg h]
    by_cases h2 : k < i
    · rw [if_pos h2, if_pos (by omega)]
    · rw [if_neg h2, if_neg (by omega)]
theorem Rf.digs_all (s : List Int) (h : ∀ k, k < 8 → 0 ≤ s.getD k 0 ∧ s.getD k 0 < 4294967296) : Rf.digs s 32 = Sh.digest s := by
  have w : ∀ k, k < 8 → (IntKind.wrap .u64 (s.getD k 0)).toNat = (s.getD k 0).toNat := fun k hk => by
    obtain ⟨h1, h2⟩ := h k hk
    rw [wrap_u _ h1 (by omega)]
  have b4 : ∀ x : Nat, be 4 x = [((x / 256 ^ 3 % 256 : Nat) : Int), ((x / 256 ^ 2 % 256 : Nat) : Int), ((x / 256 ^ 1 % 256 : Nat) : Int), ((x / 256 ^ 0 % 256 : Nat) : Int)] := fun x => by
    simp only [be, List.nil_append, List.cons_append, Nat.div_div_eq_div_mul]
    simp
  simp only [Sh.digest, List.range, List.range.loop, List.flatMap_cons, List.flatMap_nil, w 0 (by omega), w 1 (by omega), w 2 (by omega), w 3 (by omega), w 4 (by omega), w 5 (by omega), w 6 (by omega), w 7 (by omega), b4, List.cons_append, List.nil_append, List.append_nil]
  rfl
theorem f52.digest (K n0 : Nat) (l0 z s : List Int) (h : ∀ k, k < 8 → 0 ≤ s.getD k 0 ∧ s.getD k 0 < 4294967296) (hK : 32 < K) :
    iter (f52.s6 K) K (0, n0, l0, z, s, Rf.digs s 0) = some (n0, l0, z, Rf.digs s 32) := by
  have := iter_for (stp := f52.s6 K) (N := 32) (fun i => ((i : Int), n0, l0, z, s, Rf.digs s i)) (y := some (n0, l0, z, Rf.digs s 32)) ?_ ?_ hK
  · exact this
  · intro i hi rec
    simp only [f52.s6, f52.s6t]
    have e28 : IntKind.wrap .i64 (Int.tdiv (i : Int) 4) = ((i / 4 : Nat) : Int) := by rw [show Int.tdiv (i : Int) 4 = ((i / 4 : Nat) : Int) from tdiv_nat i 4, wrap_i _ (by omega) (by omega)]
    have e33 : IntKind.wrap .i64 (24 - (IntKind.wrap .i64 (8 * (Int.tmod (i : Int) 4)))) = ((24 - 8 * (i % 4) : Nat) : Int) := by
      rw [show Int.tmod (i : Int) 4 = ((i % 4 : Nat) : Int) from tmod_nat i 4, wrap_i (8 * ((i % 4 : Nat) : Int)) (by omega) (by omega), wrap_i _ (by omega) (by omega)]; omega
    obtain ⟨r1, r2⟩ := h (i / 4) (by omega)
    have sh : IntKind.wrap .u8 (shiftI .shr .u32 (List.getD s (i / 4) 0) ((24 - 8 * (i % 4) : Nat) : Int)) = Rf.dig s i := by
      unfold shiftI Rf.dig
      dsimp only
      obtain ⟨x, hx⟩ : ∃ x : Nat, List.getD s (i / 4) 0 = (x : Int) := ⟨(List.getD s (i / 4) 0).toNat, by omega⟩
      rw [hx, Int.toNat_natCast, Int.toNat_natCast, show min (24 - 8 * (i % 4)) IntKind.u32.bits = 24 - 8 * (i % 4) from Nat.min_eq_left (by show _ ≤ 32; omega), fdiv_nat, show (2 : Nat) ^ (24 - 8 * (i % 4)) = 256 ^ (3 - i % 4) by rw [show (256 : Nat) = 2 ^ 8 from rfl, ← Nat.pow_mul]; congr 1; omega]
      simp [IntKind.wrap, IntKind.signed, IntKind.bits]
    rw [decide_eq_true (show (i : Int) < 32 by omega), cond_t]
    simp only [e28, e33, Int.toNat_natCast]
    rw [decide_eq_true (show (0 : Int) ≤ ((i / 4 : Nat) : Int) ∧ ((i / 4 : Nat) : Int) < 8 by omega), cond_t, decide_eq_true (show (0 : Int) ≤ ((24 - 8 * (i % 4) : Nat) : Int) by omega), cond_t, decide_eq_true (show (0 : Int) ≤ (i : Int) ∧ (i : Int) < 32 by omega), cond_t, sh, Rf.digs_set s i hi, wrap_i _ (by omega) (by omega)]
    rfl
  · intro rec
    simp only [f52.s6, f52.s6t]
    rfl
theorem f52.spec (K n : Nat) (m : List Int) (hm : m.length = n) (ho : octets m) (hn : n ≤ 100000000000) (hK : 200 + n / 64 < K) : f52.F K (n, n, m) = some (Sh.sum m, n, m) := by
  simp only [f52.F, f52.T]
  rw [Nat.zero_add, ble_true (Nat.le_refl n), fitB_true (by omega), Bool.and_self, cond_t, fitB_true (by omega), Bool.and_self, cond_t, subI_self m hm, padT_self m hm]
  have l1 : (m ++ [128]).length = n + 1 := by simp [hm]
  have z := f52.zeros K n m [0, 0, 0, 0, 0, 0, 0, 0, 0, 0, 0, 0, 0, 0, 0, 0, 0, 0, 0, 0, 0, 0, 0, 0, 0, 0, 0, 0, 0, 0, 0, 0] (m ++ [128]) n (by omega) (by omega)
  rw [l1, show (119 - (n + 1 + 63) % 64) % 64 = (119 - m.length % 64) % 64 by omega] at z
  generalize hN : (119 - m.length % 64) % 64 = N at z
  rw [z, bind_s]
  dsimp only
  have w8 : IntKind.wrap .u64 (8 * (IntKind.wrap .u64 ((n : Nat) : Int))) = ((8 * n : Nat) : Int) := by rw [wrap_u (n : Int) (by omega) (by omega), wrap_u _ (by omega) (by omega)]; omega
  have l2 : (m ++ [128] ++ List.replicate N 0).length = n + 1 + N := by rw [List.length_append, l1, List.length_replicate]
  have e := f52.eight K n m [0, 0, 0, 0, 0, 0, 0, 0, 0, 0, 0, 0, 0, 0, 0, 0, 0, 0, 0, 0, 0, 0, 0, 0, 0, 0, 0, 0, 0, 0, 0, 0] (m ++ [128] ++ List.replicate N 0) (8 * n) (by omega) (by omega) (by omega)
  rw [l2] at e
  rw [w8, e, bind_s, show f79.F K () = some Sh.consts from rfl, bind_s]
  dsimp only
  have hp : m ++ [128] ++ List.replicate N 0 ++ be 8 (8 * n) = Sh.padded m := by rw [Sh.padded, hN, hm]
  have lp : (Sh.padded m).length = n + 1 + N + 8 := by rw [← hp, List.length_append, l2, be_length]
  have op : octets (Sh.padded m) := by
    rw [← hp]
    exact octets_append (octets_append (octets_append ho (by intro x hx; simp only [List.mem_singleton] at hx; omega)) (octets_zeros N)) (be_octets _ _)
  have b := f52.blocks K n m [0, 0, 0, 0, 0, 0, 0, 0, 0, 0, 0, 0, 0, 0, 0, 0, 0, 0, 0, 0, 0, 0, 0, 0, 0, 0, 0, 0, 0, 0, 0, 0] (Sh.padded m) ((Sh.padded m).length / 64) (by omega) op (by omega) (by omega)
  rw [hp, ← lp]
  rw [show [1779033703, 3144134277, 1013904242, 2773480762, 1359893119, 2600822924, 528734635, 1541459225] = Sh.init from rfl, b, bind_s]
  dsimp only
  have d := f52.digest K n m [0, 0, 0, 0, 0, 0, 0, 0, 0, 0, 0, 0, 0, 0, 0, 0, 0, 0, 0, 0, 0, 0, 0, 0, 0, 0, 0, 0, 0, 0, 0, 0] (Sh.chain (Sh.padded m) ((Sh.padded m).length / 64)) (fun k hk => chain_range _ _ k hk) (by omega)
  rw [show Rf.digs (Sh.chain (Sh.padded m) ((Sh.padded m).length / 64)) 0 = [0, 0, 0, 0, 0, 0, 0, 0, 0, 0, 0, 0, 0, 0, 0, 0, 0, 0, 0, 0, 0, 0, 0, 0, 0, 0, 0, 0, 0, 0, 0, 0] from rfl] at d
  rw [d, bind_s]
  dsimp only
  rw [Rf.digs_all _ (fun k hk => chain_range _ _ k hk), ← Sh.sum]
end Go.Proofs

namespace Go.Proofs
open Go.VM
abbrev f15v1.Ty0 := Nat × Int × Int × Nat × List Int × List Ent × List Int × List Int × List Int × Int × Int × List Int × Int × Int × List Int × List Int
abbrev f15v1.Ty1 := Nat × List Int × List Ent × List Int × List Int × List Int × Int × Int × List Int × Int × Int × List Int × List Int
abbrev f15v1.Ty2 := Nat × Nat × Nat × List Int × List Ent
abbrev f15v1.Ty3 := List Int × Nat × List Int × List Ent
noncomputable def f15v1.c : Code := bodyOf Try.f15
def f15v1.s0t (K : Nat) (rec : f15v1.Ty0 → Option (f15v1.Ty1)) (t29 : Nat) (t30 : Int) (t31 : Int) (b0_0 : Nat) (b0_1 : List Int) (b2 : List Ent) (b5 : List Int) (b6 : List Int) (b7_0 : List Int) (b7_1 : Int) (b7_2 : Int) (b8_0 : List Int) (b8_1 : Int) (b8_2 : Int) (b9 : List Int) (b10 : List Int) : Option (f15v1.Ty1) :=
  bif (decide (t31 < t30)) then
    bif decide (0 ≤ t31 ∧ t31 < ((t29 : Nat) : Int)) then
      let v11 := 0 + (Int.toNat t31)
      bif Nat.blt v11 (List.length b2) then
        let v12 := (entAt b2 v11).1
        bif ((Nat.ble (0 + v12) ((entAt b2 v11).1) && true) && true) then
          (f50.F K (v12, b7_0, b7_1, b7_2, v12, (subI ((entAt b2 v11).2.2) 0 v12), b9)).bind fun y15 =>
          rec (t29, t30, (IntKind.wrap .i64 (t31 + 1)), b0_0, b0_1, b2, b5, b6, y15.2.1, y15.2.2.1, y15.2.2.2.1, b8_0, b8_1, b8_2, y15.2.2.2.2.2.2, b10)
        else
          none
      else
        none
    else
      none
  else
    some (b0_0, b0_1, b2, b5, b6, b7_0, b7_1, b7_2, b8_0, b8_1, b8_2, b9, b10)
def f15v1.s0 (K : Nat) (rec : f15v1.Ty0 → Option (f15v1.Ty1)) (x : f15v1.Ty0) : Option (f15v1.Ty1) := f15v1.s0t K rec x.1 x.2.1 x.2.2.1 x.2.2.2.1 x.2.2.2.2.1 x.2.2.2.2.2.1 x.2.2.2.2.2.2.1 x.2.2.2.2.2.2.2.1 x.2.2.2.2.2.2.2.2.1 x.2.2.2.2.2.2.2.2.2.1 x.2.2.2.2.2.2.2.2.2.2.1 x.2.2.2.2.2.2.2.2.2.2.2.1 x.2.2.2.2.2.2.2.2.2.2.2.2.1 x.2.2.2.2.2.2.2.2.2.2.2.2.2.1 x.2.2.2.2.2.2.2.2.2.2.2.2.2.2.1 x.2.2.2.2.2.2.2.2.2.2.2.2.2.2.2
noncomputable def f15v1.s0.b : Code := (findLoop 0 f15v1.c).getD .skip
def f15v1.s0.h : Hint := { lv := [4, 7, 8, 9, 29, 30, 31] }
def f15v1.s0.ho : Hint := { lv := [4, 7, 8, 9] }
def f15v1.s0.shp (x : f15v1.Ty0) : VS := ⟨[(4, .ptr 5 0), (7, .fn 48 [.ptr 6 0]), (8, .ptr 7 0), (9, .ptr 8 0), (29, .vw true 2 0 x.1 3), (30, .int .i64 x.2.1), (31, .int .i64 x.2.2.1)], [(0, ([.ints .u8 x.2.2.2.1 x.2.2.2.2.1], 0, .ro)), (2, ([], 0, .rr false 4 x.2.2.2.2.2.1)), (5, ([.ints .u8 32 x.2.2.2.2.2.2.1], 29, .norm)), (6, ([.ints .u8 64 x.2.2.2.2.2.2.2.1], 75, .norm)), (7, ([.ptr 9 0, .ints .u8 64 x.2.2.2.2.2.2.2.2.1, .int .i64 x.2.2.2.2.2.2.2.2.2.1, .int .u64 x.2.2.2.2.2.2.2.2.2.2.1], 117, .norm)), (8, ([.ptr 10 0, .ints .u8 64 x.2.2.2.2.2.2.2.2.2.2.2.1, .int .i64 x.2.2.2.2.2.2.2.2.2.2.2.2.1, .int .u64 x.2.2.2.2.2.2.2.2.2.2.2.2.2.1], 117, .norm)), (9, ([.ints .u32 8 x.2.2.2.2.2.2.2.2.2.2.2.2.2.2.1], 113, .norm)), (10, ([.ints .u32 8 x.2.2.2.2.2.2.2.2.2.2.2.2.2.2.2], 113, .norm))], 11⟩
def f15v1.s0.inX : VS → Option (f15v1.Ty0)
  | ⟨[(4, .ptr 5 0), (7, .fn 48 [.ptr 6 0]), (8, .ptr 7 0), (9, .ptr 8 0), (29, .vw true 2 0 t29 3), (30, .int .i64 t30), (31, .int .i64 t31)], [(0, ([.ints .u8 b0_0 b0_1], 0, .ro)), (2, ([], 0, .rr false 4 b2)), (5, ([.ints .u8 32 b5], 29, .norm)), (6, ([.ints .u8 64 b6], 75, .norm)), (7, ([.ptr 9 0, .ints .u8 64 b7_0, .int .i64 b7_1, .int .u64 b7_2], 117, .norm)), (8, ([.ptr 10 0, .ints .u8 64 b8_0, .int .i64 b8_1, .int .u64 b8_2], 117, .norm)), (9, ([.ints .u32 8 b9], 113, .norm)), (10, ([.ints .u32 8 b10], 113, .norm))], 11⟩ => some (t29, t30, t31, b0_0, b0_1, b2, b5, b6, b7_0, b7_1, b7_2, b8_0, b8_1, b8_2, b9, b10)
  | _ => none
def f15v1.s0.o0 (y : f15v1.Ty1) : VS := ⟨[(4, .ptr 5 0), (7, .fn 48 [.ptr 6 0]), (8, .ptr 7 0), (9, .ptr 8 0)], [(0, ([.ints .u8 y.1 y.2.1], 0, .ro)), (2, ([], 0, .rr false 4 y.2.2.1)), (5, ([.ints .u8 32 y.2.2.2.1], 29, .norm)), (6, ([.ints .u8 64 y.2.2.2.2.1], 75, .norm)), (7, ([.ptr 9 0, .ints .u8 64 y.2.2.2.2.2.1, .int .i64 y.2.2.2.2.2.2.1, .int .u64 y.2.2.2.2.2.2.2.1], 117, .norm)), (8, ([.ptr 10 0, .ints .u8 64 y.2.2.2.2.2.2.2.2.1, .int .i64 y.2.2.2.2.2.2.2.2.2.1, .int .u64 y.2.2.2.2.2.2.2.2.2.2.1], 117, .norm)), (9, ([.ints .u32 8 y.2.2.2.2.2.2.2.2.2.2.2.1], 113, .norm)), (10, ([.ints .u32 8 y.2.2.2.2.2.2.2.2.2.2.2.2], 113, .norm))], 11⟩
def f15v1.s0.des : ∀ α : Type, (f15v1.Ty1) → (Ex → VS → Option α) → Option α := (des1 (.exit 0) f15v1.s0.o0)
def f15v1.s0.out : f15v1.Ty1 → Ex × VS := (fun y => (.exit 0, f15v1.s0.o0 y))
theorem f15v1.s0.desOK : ∀ α y (k : Ex → VS → Option α), f15v1.s0.des α y k = k (f15v1.s0.out y).1 (f15v1.s0.out y).2 := (fun _ _ _ => rfl)
def f15v1.s0.inY : Ex → VS → Option (f15v1.Ty1)
  | .exit 0, ⟨[(4, .ptr 5 0), (7, .fn 48 [.ptr 6 0]), (8, .ptr 7 0), (9, .ptr 8 0)], [(0, ([.ints .u8 b0_0 b0_1], 0, .ro)), (2, ([], 0, .rr false 4 b2)), (5, ([.ints .u8 32 b5], 29, .norm)), (6, ([.ints .u8 64 b6], 75, .norm)), (7, ([.ptr 9 0, .ints .u8 64 b7_0, .int .i64 b7_1, .int .u64 b7_2], 117, .norm)), (8, ([.ptr 10 0, .ints .u8 64 b8_0, .int .i64 b8_1, .int .u64 b8_2], 117, .norm)), (9, ([.ints .u32 8 b9], 113, .norm)), (10, ([.ints .u32 8 b10], 113, .norm))], 11⟩ => some (b0_0, b0_1, b2, b5, b6, b7_0, b7_1, b7_2, b8_0, b8_1, b8_2, b9, b10)
  | _, _ => none
def f15v1.lp (K : Nat) : Nat → Option (Hint × Summ) := tabLp [(0, f15v1.s0.h, summOf (iter (f15v1.s0 K) K) f15v1.s0.inX f15v1.s0.des)]
noncomputable def f15v1.tab (K : Nat) : List (Nat × Entry) := [(30, (viewE [(0, .u8)] (f30.E K))), (49, (f49.E K)), (48, (f48.E K)), (50, (viewE [(1, .u8)] (f50.E K))), (51, (f51.E K))]
theorem f15v1.tabOK (K : Nat) : SpecOK Try.prog (tabSp (f15v1.tab K)) := tab_ok ((tab_cons (view_ok (f30.ok K)) (tab_cons (f49.ok K) (tab_cons (f48.ok K) (tab_cons (view_ok (f50.ok K)) (tab_cons (f51.ok K) tab_nil))))))
theorem f15v1.s0.eq (K : Nat) (rec : f15v1.Ty0 → Option (f15v1.Ty1)) (x : f15v1.Ty0) : f15v1.s0 K rec x = roundL (getA tys) (tabSp (f15v1.tab K)) 50 5 (f15v1.lp K) 400 f15v1.s0.b f15v1.s0.h f15v1.s0.ho f15v1.s0.shp f15v1.s0.inX f15v1.s0.inY rec x := by kernel_rfl
theorem f15v1.s0.lok (K : Nat) : LoopsOK Try.prog 50 5 (f15v1.lp K) f15v1.s0.b := loops_ok (by
  have h : loopsIn (f15v1.lp K) f15v1.s0.b = [] := by kernel_rfl
  rw [h]; simp)
theorem f15v1.s0.ok (K : Nat) : SummOK Try.prog 50 5 (summOf (iter (f15v1.s0 K) K) f15v1.s0.inX f15v1.s0.des) f15v1.s0.b :=
  loop_ok mix tys_ok (f15v1.tabOK K) (h := f15v1.s0.h) (ho := f15v1.s0.ho) (shp := f15v1.s0.shp) (inX := f15v1.s0.inX) (des := f15v1.s0.des) (out := f15v1.s0.out) (inY := f15v1.s0.inY) (fuel := 400)
    (by intro st x h; unfold f15v1.s0.inX at h; split at h <;> simp at h; subst h; rfl)
    (by intro e st y h; unfold f15v1.s0.inY at h; split at h <;> simp at h <;> subst h <;> rfl)
    f15v1.s0.desOK (f15v1.s0.lok K) (f15v1.s0 K) (f15v1.s0.eq K) K
theorem f15v1.loops (K : Nat) : LoopsOK Try.prog 50 5 (f15v1.lp K) f15v1.c := loops_ok (by
  have h : loopsIn (f15v1.lp K) f15v1.c = [(0, f15v1.s0.b)] := by kernel_rfl
  rw [h]
  intro p hp
  simp only [List.mem_cons, List.not_mem_nil, or_false] at hp
  rcases hp with rfl
  · exact ⟨_, rfl, (f15v1.s0.ok K)⟩)
def f15v1.T (K : Nat) (a0 : Nat) (a1 : Nat) (m0_0 : Nat) (m0_1 : List Int) (m2 : List Ent) : Option (f15v1.Ty3) :=
  bif (decide (((a0 : Nat) : Int) > 64)) then
    bif ((Nat.ble (0 + a0) m0_0 && true) && true) then
      (f30.F K (a0, a0, (subI m0_1 0 a0))).bind fun y3 =>
      (f49.F K ()).bind fun y5 =>
      (f49.F K ()).bind fun y6 =>
      (f48.F K (54, (spl [0, 0, 0, 0, 0, 0, 0, 0, 0, 0, 0, 0, 0, 0, 0, 0, 0, 0, 0, 0, 0, 0, 0, 0, 0, 0, 0, 0, 0, 0, 0, 0, 0, 0, 0, 0, 0, 0, 0, 0, 0, 0, 0, 0, 0, 0, 0, 0, 0, 0, 0, 0, 0, 0, 0, 0, 0, 0, 0, 0, 0, 0, 0, 0] 0 32 (subI y3.1 0 32)))).bind fun y7 =>
      (f50.F K (64, y5.1, y5.2.1, y5.2.2.1, 64, (subI y7.2 0 64), y5.2.2.2)).bind fun y8 =>
      (iter (f15v1.s0 K) K (a1, ((a1 : Nat) : Int), 0, m0_0, m0_1, m2, [0, 0, 0, 0, 0, 0, 0, 0, 0, 0, 0, 0, 0, 0, 0, 0, 0, 0, 0, 0, 0, 0, 0, 0, 0, 0, 0, 0, 0, 0, 0, 0], y7.1, y8.2.1, y8.2.2.1, y8.2.2.2.1, y6.1, y6.2.1, y6.2.2.1, y8.2.2.2.2.2.2, y6.2.2.2)).bind fun y17 =>
      (f51.F K (y17.2.2.2.2.2.1, y17.2.2.2.2.2.2.1, y17.2.2.2.2.2.2.2.1, y17.2.2.2.2.2.2.2.2.2.2.2.1)).bind fun y18 =>
      (f48.F K (92, y17.2.2.2.2.1)).bind fun y19 =>
      (f50.F K (64, y17.2.2.2.2.2.2.2.2.1, y17.2.2.2.2.2.2.2.2.2.1, y17.2.2.2.2.2.2.2.2.2.2.1, 64, (subI y19.2 0 64), y17.2.2.2.2.2.2.2.2.2.2.2.2)).bind fun y20 =>
      (f50.F K (32, y20.2.1, y20.2.2.1, y20.2.2.2.1, 32, (subI y18.1 0 32), y20.2.2.2.2.2.2)).bind fun y21 =>
      (f51.F K (y21.2.1, y21.2.2.1, y21.2.2.2.1, y21.2.2.2.2.2.2)).bind fun y22 =>
      some (y22.1, y17.1, y17.2.1, y17.2.2.1)
    else
      none
  else
    bif ((Nat.ble (0 + a0) m0_0 && true) && (Nat.beq a0 a0)) then
      (f49.F K ()).bind fun y25 =>
      (f49.F K ()).bind fun y26 =>
      (f48.F K (54, (spl [0, 0, 0, 0, 0, 0, 0, 0, 0, 0, 0, 0, 0, 0, 0, 0, 0, 0, 0, 0, 0, 0, 0, 0, 0, 0, 0, 0, 0, 0, 0, 0, 0, 0, 0, 0, 0, 0, 0, 0, 0, 0, 0, 0, 0, 0, 0, 0, 0, 0, 0, 0, 0, 0, 0, 0, 0, 0, 0, 0, 0, 0, 0, 0] 0 (Nat.min a0 64) (subI m0_1 0 a0)))).bind fun y27 =>
      (f50.F K (64, y25.1, y25.2.1, y25.2.2.1, 64, (subI y27.2 0 64), y25.2.2.2)).bind fun y28 =>
      (iter (f15v1.s0 K) K (a1, ((a1 : Nat) : Int), 0, m0_0, m0_1, m2, [0, 0, 0, 0, 0, 0, 0, 0, 0, 0, 0, 0, 0, 0, 0, 0, 0, 0, 0, 0, 0, 0, 0, 0, 0, 0, 0, 0, 0, 0, 0, 0], y27.1, y28.2.1, y28.2.2.1, y28.2.2.2.1, y26.1, y26.2.1, y26.2.2.1, y28.2.2.2.2.2.2, y26.2.2.2)).bind fun y30 =>
      (f51.F K (y30.2.2.2.2.2.1, y30.2.2.2.2.2.2.1, y30.2.2.2.2.2.2.2.1, y30.2.2.2.2.2.2.2.2.2.2.2.1)).bind fun y31 =>
      (f48.F K (92, y30.2.2.2.2.1)).bind fun y32 =>
      (f50.F K (64, y30.2.2.2.2.2.2.2.2.1, y30.2.2.2.2.2.2.2.2.2.1, y30.2.2.2.2.2.2.2.2.2.2.1, 64, (subI y32.2 0 64), y30.2.2.2.2.2.2.2.2.2.2.2.2)).bind fun y33 =>
      (f50.F K (32, y33.2.1, y33.2.2.1, y33.2.2.2.1, 32, (subI y31.1 0 32), y33.2.2.2.2.2.2)).bind fun y34 =>
      (f51.F K (y34.2.1, y34.2.2.1, y34.2.2.2.1, y34.2.2.2.2.2.2)).bind fun y35 =>
      some (y35.1, y30.1, y30.2.1, y30.2.2.1)
    else
      none
def f15v1.F (K : Nat) (x : f15v1.Ty2) : Option (f15v1.Ty3) := f15v1.T K x.1 x.2.1 x.2.2.1 x.2.2.2.1 x.2.2.2.2
def f15v1.av (x : f15v1.Ty2) : List VV := [.vw true 0 0 x.1 1, .vw true 2 0 x.2.1 3]
def f15v1.bl (x : f15v1.Ty2) : List (Nat × Blk) := [(0, ([.ints .u8 x.2.2.1 x.2.2.2.1], 0, .ro)), (2, ([], 0, .rr false 4 x.2.2.2.2))]
def f15v1.inA : VS → Option (f15v1.Ty2)
  | ⟨[(0, .vw true 0 0 a0 1), (1, .vw true 2 0 a1 3)], [(0, ([.ints .u8 m0_0 m0_1], 0, .ro)), (2, ([], 0, .rr false 4 m2))], 5⟩ => some (a0, a1, m0_0, m0_1, m2)
  | _ => none
def f15v1.o0 (y : f15v1.Ty3) : VS := ⟨[(0, .agg [.ints .u8 32 y.1])], [(0, ([.ints .u8 y.2.1 y.2.2.1], 0, .ro)), (2, ([], 0, .rr false 4 y.2.2.2))], 5⟩
def f15v1.des : ∀ α : Type, (f15v1.Ty3) → (VS → Option α) → Option α := (dv1 f15v1.o0)
def f15v1.out : f15v1.Ty3 → VS := f15v1.o0
def f15v1.inR : VS → Option (f15v1.Ty3)
  | ⟨[(0, .agg [.ints .u8 32 y])], [(0, ([.ints .u8 z0_0 z0_1], 0, .ro)), (2, ([], 0, .rr false 4 z2))], 5⟩ => some (y, z0_0, z0_1, z2)
  | _ => none
noncomputable def f15v1.E (K : Nat) : Entry := genE 5 f15v1.inA (f15v1.F K) f15v1.des
theorem f15v1.eq (K : Nat) (x : f15v1.Ty2) : f15v1.F K x = xrun (getA tys) (tabSp (f15v1.tab K)) Try.f15.ntmps 5 (f15v1.lp K) 400 f15v1.c ⟨initL 0 (f15v1.av x), f15v1.bl x, 5⟩ (contF (getA tys) 5 Try.f15.results.toList f15v1.inR) := by kernel_rfl
theorem f15v1.ok (K : Nat) : EntryOK Try.prog 15 (f15v1.E K) :=
  gen_ok mix tys_ok (f15v1.tabOK K) Try.func15 (by kernel_rfl : Try.f15.body = some f15v1.c) (by kernel_rfl) (f15v1.loops K) (av := f15v1.av) (bl := f15v1.bl) (out := f15v1.out) (fuel := 400)
    (by intro s x h; unfold f15v1.inA at h; split at h <;> simp at h; subst h; rfl) (fun _ => Nat.le_of_ble_eq_true rfl)
    (by intro s y h; unfold f15v1.inR at h; split at h <;> simp at h <;> subst h <;> rfl) (fun _ _ _ => rfl) (f15v1.eq K)
end Go.Proofs

namespace Go.Proofs
open Go.VM
abbrev f47.Ty0 := ByteArray × Int × List Int
noncomputable def f47.c : Code := bodyOf Try.f47
def f47.k0 : ByteArray := ByteArray.mk #[48, 49, 50, 51, 52, 53, 54, 55, 56, 57, 97, 98, 99, 100, 101, 102]
def f47.s0t (_K : Nat) (rec : f47.Ty0 → Option (ByteArray)) (t3 : ByteArray) (t4 : Int) (b0 : List Int) : Option (ByteArray) :=
  bif (decide (t4 < 32)) then
    bif decide (0 ≤ t4 ∧ t4 < 32) then
      let v4 := Int.fdiv (List.getD b0 (Int.toNat t4) 0) (2 ^ 4)
      bif decide (0 ≤ t4 ∧ t4 < 32) then
        let v8 := IntKind.wrap .u8 ((Int.fdiv (List.getD b0 (Int.toNat t4) 0) (2 ^ 4)) + 1)
        bif (decide (0 ≤ v8 ∧ v8 ≤ ((ByteArray.size f47.k0 : Nat) : Int)) && (decide (0 ≤ v4 ∧ v4 ≤ ((Int.toNat v8 : Nat) : Int)))) then
          bif fitB (ByteArray.size t3 + ByteArray.size (ByteArray.extract f47.k0 (Int.toNat v4) (Int.toNat v8))) then
            bif decide (0 ≤ t4 ∧ t4 < 32) then
              let v11 := bits .and .u8 (List.getD b0 (Int.toNat t4) 0) 15
              bif decide (0 ≤ t4 ∧ t4 < 32) then
                let v15 := IntKind.wrap .u8 ((bits .and .u8 (List.getD b0 (Int.toNat t4) 0) 15) + 1)
                bif (decide (0 ≤ v15 ∧ v15 ≤ ((ByteArray.size f47.k0 : Nat) : Int)) && (decide (0 ≤ v11 ∧ v11 ≤ ((Int.toNat v15 : Nat) : Int)))) then
                  bif fitB (ByteArray.size (t3 ++ (ByteArray.extract f47.k0 (Int.toNat v4) (Int.toNat v8))) + ByteArray.size (ByteArray.extract f47.k0 (Int.toNat v11) (Int.toNat v15))) then
                    rec (((t3 ++ (ByteArray.extract f47.k0 (Int.toNat v4) (Int.toNat v8))) ++ (ByteArray.extract f47.k0 (Int.toNat v11) (Int.toNat v15))), (IntKind.wrap .i64 (t4 + 1)), b0)
                  else
                    none
                else
                  none
              else
                none
            else
              none
          else
            none
        else
          none
      else
        none
    else
      none
  else
    some t3
def f47.s0 (K : Nat) (rec : f47.Ty0 → Option (ByteArray)) (x : f47.Ty0) : Option (ByteArray) := f47.s0t K rec x.1 x.2.1 x.2.2
noncomputable def f47.s0.b : Code := (findLoop 0 f47.c).getD .skip
def f47.s0.h : Hint := { lv := [1, 3, 4] }
def f47.s0.ho : Hint := { lv := [3] }
def f47.s0.shp (x : f47.Ty0) : VS := ⟨[(1, .ptr 0 0), (3, .str x.1), (4, .int .i64 x.2.1)], [(0, ([.ints .u8 32 x.2.2], 29, .norm))], 1⟩
def f47.s0.inX : VS → Option (f47.Ty0)
  | ⟨[(1, .ptr 0 0), (3, .str t3), (4, .int .i64 t4)], [(0, ([.ints .u8 32 b0], 29, .norm))], 1⟩ => some (t3, t4, b0)
  | _ => none
def f47.s0.o0 (y : ByteArray) : VS := ⟨[(3, .str y)], [], 0⟩
def f47.s0.des : ∀ α : Type, ByteArray → (Ex → VS → Option α) → Option α := (des1 (.exit 0) f47.s0.o0)
def f47.s0.out : ByteArray → Ex × VS := (fun y => (.exit 0, f47.s0.o0 y))
theorem f47.s0.desOK : ∀ α y (k : Ex → VS → Option α), f47.s0.des α y k = k (f47.s0.out y).1 (f47.s0.out y).2 := (fun _ _ _ => rfl)
def f47.s0.inY : Ex → VS → Option (ByteArray)
  | .exit 0, ⟨[(3, .str t3)], [], 0⟩ => some t3
  | _, _ => none
def f47.lp (K : Nat) : Nat → Option (Hint × Summ) := tabLp [(0, f47.s0.h, summOf (iter (f47.s0 K) K) f47.s0.inX f47.s0.des)]
noncomputable def f47.tab (_K : Nat) : List (Nat × Entry) := []
theorem f47.tabOK (K : Nat) : SpecOK Try.prog (tabSp (f47.tab K)) := tab_ok ( tab_nil)
theorem f47.s0.eq (K : Nat) (rec : f47.Ty0 → Option (ByteArray)) (x : f47.Ty0) : f47.s0 K rec x = roundL (getA tys) (tabSp (f47.tab K)) 33 0 (f47.lp K) 400 f47.s0.b f47.s0.h f47.s0.ho f47.s0.shp f47.s0.inX f47.s0.inY rec x := by kernel_rfl
theorem f47.s0.lok (K : Nat) : LoopsOK Try.prog 33 0 (f47.lp K) f47.s0.b := loops_ok (by
  have h : loopsIn (f47.lp K) f47.s0.b = [] := by kernel_rfl
  rw [h]; simp)
theorem f47.s0.ok (K : Nat) : SummOK Try.prog 33 0 (summOf (iter (f47.s0 K) K) f47.s0.inX f47.s0.des) f47.s0.b :=
  loop_ok mix tys_ok (f47.tabOK K) (h := f47.s0.h) (ho := f47.s0.ho) (shp := f47.s0.shp) (inX := f47.s0.inX) (des := f47.s0.des) (out := f47.s0.out) (inY := f47.s0.inY) (fuel := 400)
    (by intro st x h; unfold f47.s0.inX at h; split at h <;> simp at h; subst h; rfl)
    (by intro e st y h; unfold f47.s0.inY at h; split at h <;> simp at h <;> subst h <;> rfl)
    f47.s0.desOK (f47.s0.lok K) (f47.s0 K) (f47.s0.eq K) K
theorem f47.loops (K : Nat) : LoopsOK Try.prog 33 0 (f47.lp K) f47.c := loops_ok (by
  have h : loopsIn (f47.lp K) f47.c = [(0, f47.s0.b)] := by kernel_rfl
  rw [h]
  intro p hp
  simp only [List.mem_cons, List.not_mem_nil, or_false] at hp
  rcases hp with rfl
  · exact ⟨_, rfl, (f47.s0.ok K)⟩)
def f47.T (K : Nat) (a0 : List Int) : Option (ByteArray) :=
  (iter (f47.s0 K) K (ByteArray.empty, 0, a0)).bind fun y17 =>
  some y17
def f47.F (K : Nat) (x : List Int) : Option (ByteArray) := f47.T K x
def f47.av (x : List Int) : List VV := [.agg [.ints .u8 32 x]]
def f47.bl (_x : List Int) : List (Nat × Blk) := []
def f47.inA : VS → Option (List Int)
  | ⟨[(0, .agg [.ints .u8 32 a0])], [], 0⟩ => some a0
  | _ => none
def f47.o0 (y : ByteArray) : VS := ⟨[(0, .str y)], [], 0⟩
def f47.des : ∀ α : Type, ByteArray → (VS → Option α) → Option α := (dv1 f47.o0)
def f47.out : ByteArray → VS := f47.o0
def f47.inR : VS → Option (ByteArray)
  | ⟨[(0, .str y)], [], 0⟩ => some y
  | _ => none
noncomputable def f47.E (K : Nat) : Entry := genE 0 f47.inA (f47.F K) f47.des
theorem f47.eq (K : Nat) (x : List Int) : f47.F K x = xrun (getA tys) (tabSp (f47.tab K)) Try.f47.ntmps 0 (f47.lp K) 400 f47.c ⟨initL 0 (f47.av x), f47.bl x, 0⟩ (contF (getA tys) 0 Try.f47.results.toList f47.inR) := by kernel_rfl
theorem f47.ok (K : Nat) : EntryOK Try.prog 47 (f47.E K) :=
  gen_ok mix tys_ok (f47.tabOK K) Try.func47 (by kernel_rfl : Try.f47.body = some f47.c) (by kernel_rfl) (f47.loops K) (av := f47.av) (bl := f47.bl) (out := f47.out) (fuel := 400)
    (by intro s x h; unfold f47.inA at h; split at h <;> simp at h; subst h; rfl) (fun _ => Nat.le_of_ble_eq_true rfl)
    (by intro s y h; unfold f47.inR at h; split at h <;> simp at h <;> subst h <;> rfl) (fun _ _ _ => rfl) (f47.eq K)
end Go.Proofs

namespace Go.Proofs
open Go.VM
def f12.k0 : ByteArray := ByteArray.mk #[53, 98, 100, 99, 99, 49, 52, 54, 98, 102, 54, 48, 55, 53, 52, 101, 54, 97, 48, 52, 50, 52, 50, 54, 48, 56, 57, 53, 55, 53, 99, 55, 53, 97, 48, 48, 51, 102, 48, 56, 57, 100, 50, 55, 51, 57, 56, 51, 57, 100, 101, 99, 53, 56, 98, 57, 54, 52, 101, 99, 51, 56, 52, 51]
def f12.T (K : Nat)  : Option (Bool) :=
  (f15v1.F K (4, 2, 4, [74, 101, 102, 101], ([(16, 16, [119, 104, 97, 116, 32, 100, 111, 32, 121, 97, 32, 119, 97, 110, 116, 32]), (12, 12, [102, 111, 114, 32, 110, 111, 116, 104, 105, 110, 103, 63])] : List Ent))).bind fun y1 =>
  (f47.F K y1.1).bind fun y2 =>
  bif (strEq y2 f12.k0) then
    (f19.F K (2, 2, 2, [97, 98], 2, [97, 98])).bind fun y4 =>
    bif y4.1 then
      (f19.F K (2, 1, 2, [97, 98], 1, [97])).bind fun y5 =>
      some (!y5.1)
    else
      some false
  else
    some false
def f12.F (K : Nat) (_x : Unit) : Option (Bool) := f12.T K
def f12.av (_x : Unit) : List VV := []
def f12.bl (_x : Unit) : List (Nat × Blk) := []
def f12.inA : VS → Option (Unit)
  | ⟨[], [], 0⟩ => some ()
  | _ => none
def f12.o0 (y : Bool) : VS := ⟨[(0, .bool y)], [], 0⟩
def f12.inR : VS → Option (Bool)
  | ⟨[(0, .bool y)], [], 0⟩ => some y
  | _ => none
noncomputable def f12.E (K : Nat) : Entry := genE 0 f12.inA (f12.F K) (dv1 f12.o0)
theorem f12.ok (K : Nat) : EntryOK Try.prog 12 (f12.E K) := gen_ok mix tys_ok (sp := tabSp [(15, (rwE 1 (viewE [(0, .u8)] (f15v1.E K)))), (47, (f47.E K)), (19, (viewE [(0, .u8), (1, .u8)] (f19.E K)))]) (tab_ok ((tab_cons (rw_ok (view_ok (f15v1.ok K))) (tab_cons (f47.ok K) (tab_cons (view_ok (f19.ok K)) tab_nil))))) Try.func12 (c := bodyOf Try.f12) (by kernel_rfl) (by kernel_rfl) (loops_none (lp := lpNone) (by kernel_rfl)) (av := f12.av) (bl := f12.bl) (inR := f12.inR) (out := f12.o0) (fuel := 400)
  (by intro s x h; unfold f12.inA at h; split at h <;> simp at h; rfl) (fun _ => Nat.le_of_ble_eq_true rfl)
  (by intro s y h; unfold f12.inR at h; split at h <;> simp at h <;> subst h <;> rfl) (fun _ _ _ => rfl) (fun _ => by kernel_rfl)
end Go.Proofs

namespace Go.Proofs
open Go.VM
theorem eqL_refl (n : Nat) (l : List Int) : eqL n l l = true := by simp [eqL]
theorem subI_front (l m : List Int) {n : Nat} (h : l.length = n) : subI (l ++ m) 0 n = l := by
  refine list_getD (by simp [subI, h]) fun i hi => ?_
  have hi' : i < n := by simpa [subI] using hi
  simp only [subI, List.getD_eq_getElem?_getD, Nat.zero_add]
  rw [List.getElem?_map, List.getElem?_range hi']
  simp [List.getD_eq_getElem?_getD, List.getElem?_append_left (show i < l.length by omega)]
set_option maxRecDepth 1000000 in
theorem f12.holds : f12.F 100000 () = some true := by decide +kernel
end Go.Proofs

namespace Go.Proofs
open Go.VM
abbrev f78.Ty0 := Int × Nat × List Int
abbrev f78.Ty1 := Nat × Nat × List Int
def f78.T (_K : Nat) (a0 : Nat) (m0_0 : Nat) (m0_1 : List Int) : Option (f78.Ty0) :=
  some (((a0 : Nat) : Int), m0_0, m0_1)
def f78.F (K : Nat) (x : f78.Ty1) : Option (f78.Ty0) := f78.T K x.1 x.2.1 x.2.2
def f78.av (x : f78.Ty1) : List VV := [.vw true 0 0 x.1 1]
def f78.bl (x : f78.Ty1) : List (Nat × Blk) := [(0, ([.ints .u8 x.2.1 x.2.2], 0, .ro))]
def f78.inA : VS → Option (f78.Ty1)
  | ⟨[(0, .vw true 0 0 a0 1)], [(0, ([.ints .u8 m0_0 m0_1], 0, .ro))], 2⟩ => some (a0, m0_0, m0_1)
  | _ => none
def f78.o0 (y : f78.Ty0) : VS := ⟨[(0, .int .i64 y.1)], [(0, ([.ints .u8 y.2.1 y.2.2], 0, .ro))], 2⟩
def f78.inR : VS → Option (f78.Ty0)
  | ⟨[(0, .int .i64 y)], [(0, ([.ints .u8 z0_0 z0_1], 0, .ro))], 2⟩ => some (y, z0_0, z0_1)
  | _ => none
noncomputable def f78.E (K : Nat) : Entry := genE 2 f78.inA (f78.F K) (dv1 f78.o0)
theorem f78.ok (K : Nat) : EntryOK Try.prog 78 (f78.E K) := gen_ok mix tys_ok (tab_ok ( tab_nil)) Try.func78 (c := bodyOf Try.f78) (by kernel_rfl) (by kernel_rfl) (loops_none (lp := lpNone) (by kernel_rfl)) (av := f78.av) (bl := f78.bl) (inR := f78.inR) (out := f78.o0) (fuel := 400)
  (by intro s x h; unfold f78.inA at h; split at h <;> simp at h; subst h; rfl) (fun _ => Nat.le_of_ble_eq_true rfl)
  (by intro s y h; unfold f78.inR at h; split at h <;> simp at h <;> subst h <;> rfl) (fun _ _ _ => rfl) (fun _ => by kernel_rfl)
end Go.Proofs

namespace Go.Proofs
open Go.VM
abbrev f46.Ty0 := Nat × Int × Int × List Ent
abbrev f46.Ty1 := Int × List Ent
abbrev f46.Ty2 := Nat × List Ent
noncomputable def f46.c : Code := bodyOf Try.f46
def f46.s0t (K : Nat) (rec : f46.Ty0 → Option (f46.Ty1)) (t0 : Nat) (t3 : Int) (t4 : Int) (b0 : List Ent) : Option (f46.Ty1) :=
  bif (decide (t4 < ((t0 : Nat) : Int))) then
    bif (decide (t3 ≤ 1048576)) then
      bif decide (0 ≤ t4 ∧ t4 < ((t0 : Nat) : Int)) then
        let v5 := 0 + (Int.toNat t4)
        bif Nat.blt v5 (List.length b0) then
          let v6 := (entAt b0 v5).1
          bif ((Nat.ble (0 + v6) ((entAt b0 v5).1) && true) && true) then
            (f78.F K (v6, v6, (subI ((entAt b0 v5).2.2) 0 v6))).bind fun y9 =>
            rec (t0, (IntKind.wrap .i64 (t3 + y9.1)), (IntKind.wrap .i64 (t4 + 1)), b0)
          else
            none
        else
          none
      else
        none
    else
      some (t3, b0)
  else
    some (t3, b0)
def f46.s0 (K : Nat) (rec : f46.Ty0 → Option (f46.Ty1)) (x : f46.Ty0) : Option (f46.Ty1) := f46.s0t K rec x.1 x.2.1 x.2.2.1 x.2.2.2
noncomputable def f46.s0.b : Code := (findLoop 0 f46.c).getD .skip
def f46.s0.h : Hint := { lv := [0, 3, 4] }
def f46.s0.ho : Hint := { lv := [3] }
def f46.s0.shp (x : f46.Ty0) : VS := ⟨[(0, .vw true 0 0 x.1 1), (3, .int .i64 x.2.1), (4, .int .i64 x.2.2.1)], [(0, ([], 0, .rr false 2 x.2.2.2))], 3⟩
def f46.s0.inX : VS → Option (f46.Ty0)
  | ⟨[(0, .vw true 0 0 t0 1), (3, .int .i64 t3), (4, .int .i64 t4)], [(0, ([], 0, .rr false 2 b0))], 3⟩ => some (t0, t3, t4, b0)
  | _ => none
def f46.s0.o0 (y : f46.Ty1) : VS := ⟨[(3, .int .i64 y.1)], [(0, ([], 0, .rr false 2 y.2))], 3⟩
def f46.s0.des : ∀ α : Type, (f46.Ty1) → (Ex → VS → Option α) → Option α := (des1 (.exit 0) f46.s0.o0)
def f46.s0.out : f46.Ty1 → Ex × VS := (fun y => (.exit 0, f46.s0.o0 y))
theorem f46.s0.desOK : ∀ α y (k : Ex → VS → Option α), f46.s0.des α y k = k (f46.s0.out y).1 (f46.s0.out y).2 := (fun _ _ _ => rfl)
def f46.s0.inY : Ex → VS → Option (f46.Ty1)
  | .exit 0, ⟨[(3, .int .i64 t3)], [(0, ([], 0, .rr false 2 b0))], 3⟩ => some (t3, b0)
  | _, _ => none
def f46.lp (K : Nat) : Nat → Option (Hint × Summ) := tabLp [(0, f46.s0.h, summOf (iter (f46.s0 K) K) f46.s0.inX f46.s0.des)]
noncomputable def f46.tab (K : Nat) : List (Nat × Entry) := [(78, (viewE [(0, .u8)] (f78.E K)))]
theorem f46.tabOK (K : Nat) : SpecOK Try.prog (tabSp (f46.tab K)) := tab_ok ((tab_cons (view_ok (f78.ok K)) tab_nil))
theorem f46.s0.eq (K : Nat) (rec : f46.Ty0 → Option (f46.Ty1)) (x : f46.Ty0) : f46.s0 K rec x = roundL (getA tys) (tabSp (f46.tab K)) 25 3 (f46.lp K) 400 f46.s0.b f46.s0.h f46.s0.ho f46.s0.shp f46.s0.inX f46.s0.inY rec x := by kernel_rfl
theorem f46.s0.lok (K : Nat) : LoopsOK Try.prog 25 3 (f46.lp K) f46.s0.b := loops_ok (by
  have h : loopsIn (f46.lp K) f46.s0.b = [] := by kernel_rfl
  rw [h]; simp)
theorem f46.s0.ok (K : Nat) : SummOK Try.prog 25 3 (summOf (iter (f46.s0 K) K) f46.s0.inX f46.s0.des) f46.s0.b :=
  loop_ok mix tys_ok (f46.tabOK K) (h := f46.s0.h) (ho := f46.s0.ho) (shp := f46.s0.shp) (inX := f46.s0.inX) (des := f46.s0.des) (out := f46.s0.out) (inY := f46.s0.inY) (fuel := 400)
    (by intro st x h; unfold f46.s0.inX at h; split at h <;> simp at h; subst h; rfl)
    (by intro e st y h; unfold f46.s0.inY at h; split at h <;> simp at h <;> subst h <;> rfl)
    f46.s0.desOK (f46.s0.lok K) (f46.s0 K) (f46.s0.eq K) K
theorem f46.loops (K : Nat) : LoopsOK Try.prog 25 3 (f46.lp K) f46.c := loops_ok (by
  have h : loopsIn (f46.lp K) f46.c = [(0, f46.s0.b)] := by kernel_rfl
  rw [h]
  intro p hp
  simp only [List.mem_cons, List.not_mem_nil, or_false] at hp
  rcases hp with rfl
  · exact ⟨_, rfl, (f46.s0.ok K)⟩)
def f46.T (K : Nat) (a0 : Nat) (m0 : List Ent) : Option (f46.Ty1) :=
  (iter (f46.s0 K) K (a0, ((a0 : Nat) : Int), 0, m0)).bind fun y12 =>
  some (y12.1, y12.2)
def f46.F (K : Nat) (x : f46.Ty2) : Option (f46.Ty1) := f46.T K x.1 x.2
def f46.av (x : f46.Ty2) : List VV := [.vw true 0 0 x.1 1]
def f46.bl (x : f46.Ty2) : List (Nat × Blk) := [(0, ([], 0, .rr false 2 x.2))]
def f46.inA : VS → Option (f46.Ty2)
  | ⟨[(0, .vw true 0 0 a0 1)], [(0, ([], 0, .rr false 2 m0))], 3⟩ => some (a0, m0)
  | _ => none
def f46.o0 (y : f46.Ty1) : VS := ⟨[(0, .int .i64 y.1)], [(0, ([], 0, .rr false 2 y.2))], 3⟩
def f46.des : ∀ α : Type, (f46.Ty1) → (VS → Option α) → Option α := (dv1 f46.o0)
def f46.out : f46.Ty1 → VS := f46.o0
def f46.inR : VS → Option (f46.Ty1)
  | ⟨[(0, .int .i64 y)], [(0, ([], 0, .rr false 2 z0))], 3⟩ => some (y, z0)
  | _ => none
noncomputable def f46.E (K : Nat) : Entry := genE 3 f46.inA (f46.F K) f46.des
theorem f46.eq (K : Nat) (x : f46.Ty2) : f46.F K x = xrun (getA tys) (tabSp (f46.tab K)) Try.f46.ntmps 3 (f46.lp K) 400 f46.c ⟨initL 0 (f46.av x), f46.bl x, 3⟩ (contF (getA tys) 3 Try.f46.results.toList f46.inR) := by kernel_rfl
theorem f46.ok (K : Nat) : EntryOK Try.prog 46 (f46.E K) :=
  gen_ok mix tys_ok (f46.tabOK K) Try.func46 (by kernel_rfl : Try.f46.body = some f46.c) (by kernel_rfl) (f46.loops K) (av := f46.av) (bl := f46.bl) (out := f46.out) (fuel := 400)
    (by intro s x h; unfold f46.inA at h; split at h <;> simp at h; subst h; rfl) (fun _ => Nat.le_of_ble_eq_true rfl)
    (by intro s y h; unfold f46.inR at h; split at h <;> simp at h <;> subst h <;> rfl) (fun _ _ _ => rfl) (f46.eq K)
end Go.Proofs

namespace Go.Proofs
open Go.VM
def f11.T (K : Nat) (a0 : Nat) (m0 : List Ent) : Option (Bool × List Ent) :=
  bif (decide (((a0 : Nat) : Int) > 60)) then
    some (true, m0)
  else
    bif Nat.beq a0 (List.length m0) then
      (f46.F K (a0, m0)).bind fun y3 =>
      some ((decide (y3.1 > 20000)), m0)
    else
      none
def f11.F (K : Nat) (x : Nat × List Ent) : Option (Bool × List Ent) := f11.T K x.1 x.2
def f11.av (x : Nat × List Ent) : List VV := [.vw true 0 0 x.1 1]
def f11.bl (x : Nat × List Ent) : List (Nat × Blk) := [(0, ([], 0, .rr false 2 x.2))]
def f11.inA : VS → Option (Nat × List Ent)
  | ⟨[(0, .vw true 0 0 a0 1)], [(0, ([], 0, .rr false 2 m0))], 3⟩ => some (a0, m0)
  | _ => none
def f11.o0 (y : Bool × List Ent) : VS := ⟨[(0, .bool y.1)], [(0, ([], 0, .rr false 2 y.2))], 3⟩
def f11.inR : VS → Option (Bool × List Ent)
  | ⟨[(0, .bool y)], [(0, ([], 0, .rr false 2 z0))], 3⟩ => some (y, z0)
  | _ => none
noncomputable def f11.E (K : Nat) : Entry := genE 3 f11.inA (f11.F K) (dv1 f11.o0)
theorem f11.ok (K : Nat) : EntryOK Try.prog 11 (f11.E K) := gen_ok mix tys_ok (sp := tabSp [(46, (rwE 0 (f46.E K)))]) (tab_ok ((tab_cons (rw_ok (f46.ok K)) tab_nil))) Try.func11 (c := bodyOf Try.f11) (by kernel_rfl) (by kernel_rfl) (loops_none (lp := lpNone) (by kernel_rfl)) (av := f11.av) (bl := f11.bl) (inR := f11.inR) (out := f11.o0) (fuel := 400)
  (by intro s x h; unfold f11.inA at h; split at h <;> simp at h; subst h; rfl) (fun _ => Nat.le_of_ble_eq_true rfl)
  (by intro s y h; unfold f11.inR at h; split at h <;> simp at h <;> subst h <;> rfl) (fun _ _ _ => rfl) (fun _ => by kernel_rfl)
end Go.Proofs

namespace Go.Proofs
open Go.VM
abbrev f14.Ty0 := Nat × Nat × Nat × Int × List Ent × Nat × List Ent
abbrev f14.Ty1 := Nat × Nat × Nat × List Ent × Nat × List Ent
abbrev f14.Ty2 := Nat × Nat × List Ent × Nat × List Ent
abbrev f14.Ty3 := Nat × List Ent
noncomputable def f14.c : Code := bodyOf Try.f14
def f14.s0t (K : Nat) (rec : f14.Ty0 → Option (f14.Ty1)) (t0 : Nat) (t3_0 : Nat) (t3_1 : Nat) (t4 : Int) (b0 : List Ent) (b3_0 : Nat) (b3_1 : List Ent) : Option (f14.Ty1) :=
  bif (decide (t4 < ((t0 : Nat) : Int))) then
    bif decide (0 ≤ t4 ∧ t4 < ((t0 : Nat) : Int)) then
      let v7 := 0 + (Int.toNat t4)
      bif Nat.blt v7 (List.length b0) then
        let v8 := (entAt b0 v7).1
        bif ((Nat.ble (0 + v8) ((entAt b0 v7).1) && true) && true) then
          (f13.F K (v8, v8, (subI ((entAt b0 v7).2.2) 0 v8))).bind fun y11 =>
          bif ((((Nat.beq y11.2.2.2.2.1 y11.2.1 && (Nat.ble y11.1 y11.2.1)) && (Nat.ble t3_0 (List.length b3_1))) && (Nat.ble (t3_0 + 1) t3_1)) && (Nat.ble t3_1 b3_0)) then
            rec (t0, (t3_0 + 1), t3_1, (IntKind.wrap .i64 (t4 + 1)), b0, b3_0, ((List.take t3_0 b3_1) ++ ([(y11.1, y11.2.1, y11.2.2.2.2.2)] : List Ent) : List Ent))
          else
            none
        else
          none
      else
        none
    else
      none
  else
    some (t0, t3_0, t3_1, b0, b3_0, b3_1)
def f14.s0 (K : Nat) (rec : f14.Ty0 → Option (f14.Ty1)) (x : f14.Ty0) : Option (f14.Ty1) := f14.s0t K rec x.1 x.2.1 x.2.2.1 x.2.2.2.1 x.2.2.2.2.1 x.2.2.2.2.2.1 x.2.2.2.2.2.2
noncomputable def f14.s0.b : Code := (findLoop 0 f14.c).getD .skip
def f14.s0.h : Hint := { lv := [0, 3, 4] }
def f14.s0.ho : Hint := { lv := [0, 3] }
def f14.s0.shp (x : f14.Ty0) : VS := ⟨[(0, .vw true 0 0 x.1 1), (3, .sl 3 0 x.2.1 x.2.2.1), (4, .int .i64 x.2.2.2.1)], [(0, ([], 0, .rr false 2 x.2.2.2.2.1)), (3, ([], 22, .rm x.2.2.2.2.2.1 true 4 x.2.2.2.2.2.2))], 5⟩
def f14.s0.inX : VS → Option (f14.Ty0)
  | ⟨[(0, .vw true 0 0 t0 1), (3, .sl 3 0 t3_0 t3_1), (4, .int .i64 t4)], [(0, ([], 0, .rr false 2 b0)), (3, ([], 22, .rm b3_0 true 4 b3_1))], 5⟩ => some (t0, t3_0, t3_1, t4, b0, b3_0, b3_1)
  | _ => none
def f14.s0.o0 (y : f14.Ty1) : VS := ⟨[(0, .vw true 0 0 y.1 1), (3, .sl 3 0 y.2.1 y.2.2.1)], [(0, ([], 0, .rr false 2 y.2.2.2.1)), (3, ([], 22, .rm y.2.2.2.2.1 true 4 y.2.2.2.2.2))], 5⟩
def f14.s0.des : ∀ α : Type, (f14.Ty1) → (Ex → VS → Option α) → Option α := (des1 (.exit 0) f14.s0.o0)
def f14.s0.out : f14.Ty1 → Ex × VS := (fun y => (.exit 0, f14.s0.o0 y))
theorem f14.s0.desOK : ∀ α y (k : Ex → VS → Option α), f14.s0.des α y k = k (f14.s0.out y).1 (f14.s0.out y).2 := (fun _ _ _ => rfl)
def f14.s0.inY : Ex → VS → Option (f14.Ty1)
  | .exit 0, ⟨[(0, .vw true 0 0 t0 1), (3, .sl 3 0 t3_0 t3_1)], [(0, ([], 0, .rr false 2 b0)), (3, ([], 22, .rm b3_0 true 4 b3_1))], 5⟩ => some (t0, t3_0, t3_1, b0, b3_0, b3_1)
  | _, _ => none
def f14.lp (K : Nat) : Nat → Option (Hint × Summ) := tabLp [(0, f14.s0.h, summOf (iter (f14.s0 K) K) f14.s0.inX f14.s0.des)]
noncomputable def f14.tab (K : Nat) : List (Nat × Entry) := [(13, (viewE [(0, .u8)] (f13.E K)))]
theorem f14.tabOK (K : Nat) : SpecOK Try.prog (tabSp (f14.tab K)) := tab_ok ((tab_cons (view_ok (f13.ok K)) tab_nil))
theorem f14.s0.eq (K : Nat) (rec : f14.Ty0 → Option (f14.Ty1)) (x : f14.Ty0) : f14.s0 K rec x = roundL (getA tys) (tabSp (f14.tab K)) 30 3 (f14.lp K) 400 f14.s0.b f14.s0.h f14.s0.ho f14.s0.shp f14.s0.inX f14.s0.inY rec x := by kernel_rfl
theorem f14.s0.lok (K : Nat) : LoopsOK Try.prog 30 3 (f14.lp K) f14.s0.b := loops_ok (by
  have h : loopsIn (f14.lp K) f14.s0.b = [] := by kernel_rfl
  rw [h]; simp)
theorem f14.s0.ok (K : Nat) : SummOK Try.prog 30 3 (summOf (iter (f14.s0 K) K) f14.s0.inX f14.s0.des) f14.s0.b :=
  loop_ok mix tys_ok (f14.tabOK K) (h := f14.s0.h) (ho := f14.s0.ho) (shp := f14.s0.shp) (inX := f14.s0.inX) (des := f14.s0.des) (out := f14.s0.out) (inY := f14.s0.inY) (fuel := 400)
    (by intro st x h; unfold f14.s0.inX at h; split at h <;> simp at h; subst h; rfl)
    (by intro e st y h; unfold f14.s0.inY at h; split at h <;> simp at h <;> subst h <;> rfl)
    f14.s0.desOK (f14.s0.lok K) (f14.s0 K) (f14.s0.eq K) K
theorem f14.loops (K : Nat) : LoopsOK Try.prog 30 3 (f14.lp K) f14.c := loops_ok (by
  have h : loopsIn (f14.lp K) f14.c = [(0, f14.s0.b)] := by kernel_rfl
  rw [h]
  intro p hp
  simp only [List.mem_cons, List.not_mem_nil, or_false] at hp
  rcases hp with rfl
  · exact ⟨_, rfl, (f14.s0.ok K)⟩)
def f14.T (K : Nat) (a0 : Nat) (m0 : List Ent) : Option (f14.Ty2) :=
  let v2 := IntKind.wrap .i64 (((a0 : Nat) : Int) + 1)
  bif lenOK 0 v2 24 then
    (iter (f14.s0 K) K (a0, 0, (Int.toNat v2), 0, m0, (Int.toNat v2), ([] : List Ent))).bind fun y14 =>
    bif ((Nat.ble y14.2.1 (List.length y14.2.2.2.2.2) && (Nat.ble (y14.2.1 + 1) y14.2.2.1)) && (Nat.ble y14.2.2.1 y14.2.2.2.2.1)) then
      let v17 := ((y14.1 : Nat) : Int)
      bif (decide (0 ≤ v17 ∧ v17 ≤ ((y14.2.2.1 : Nat) : Int)) && true) then
        some ((Int.toNat v17), y14.2.2.1, y14.2.2.2.1, y14.2.2.2.2.1, ((List.take y14.2.1 y14.2.2.2.2.2) ++ ([(1, 1, [77])] : List Ent) : List Ent))
      else
        none
    else
      none
  else
    none
def f14.F (K : Nat) (x : f14.Ty3) : Option (f14.Ty2) := f14.T K x.1 x.2
def f14.av (x : f14.Ty3) : List VV := [.vw true 0 0 x.1 1]
def f14.bl (x : f14.Ty3) : List (Nat × Blk) := [(0, ([], 0, .rr false 2 x.2))]
def f14.inA : VS → Option (f14.Ty3)
  | ⟨[(0, .vw true 0 0 a0 1)], [(0, ([], 0, .rr false 2 m0))], 3⟩ => some (a0, m0)
  | _ => none
def f14.o0 (y : f14.Ty2) : VS := ⟨[(0, .sl 3 0 y.1 y.2.1)], [(0, ([], 0, .rr false 2 y.2.2.1)), (3, ([], 22, .rm y.2.2.2.1 true 4 y.2.2.2.2))], 5⟩
def f14.des : ∀ α : Type, (f14.Ty2) → (VS → Option α) → Option α := (dv1 f14.o0)
def f14.out : f14.Ty2 → VS := f14.o0
def f14.inR : VS → Option (f14.Ty2)
  | ⟨[(0, .sl 3 0 y_0 y_1)], [(0, ([], 0, .rr false 2 z0)), (3, ([], 22, .rm z3_0 true 4 z3_1))], 5⟩ => some (y_0, y_1, z0, z3_0, z3_1)
  | _ => none
noncomputable def f14.E (K : Nat) : Entry := genE 3 f14.inA (f14.F K) f14.des
theorem f14.eq (K : Nat) (x : f14.Ty3) : f14.F K x = xrun (getA tys) (tabSp (f14.tab K)) Try.f14.ntmps 3 (f14.lp K) 400 f14.c ⟨initL 0 (f14.av x), f14.bl x, 3⟩ (contF (getA tys) 3 Try.f14.results.toList f14.inR) := by kernel_rfl
theorem f14.ok (K : Nat) : EntryOK Try.prog 14 (f14.E K) :=
  gen_ok mix tys_ok (f14.tabOK K) Try.func14 (by kernel_rfl : Try.f14.body = some f14.c) (by kernel_rfl) (f14.loops K) (av := f14.av) (bl := f14.bl) (out := f14.out) (fuel := 400)
    (by intro s x h; unfold f14.inA at h; split at h <;> simp at h; subst h; rfl) (fun _ => Nat.le_of_ble_eq_true rfl)
    (by intro s y h; unfold f14.inR at h; split at h <;> simp at h <;> subst h <;> rfl) (fun _ _ _ => rfl) (f14.eq K)
end Go.Proofs

namespace Go.Proofs
open Go.VM
abbrev f17v1.Ty0 := Nat × Nat × Nat × Bool × Nat × List Int × Nat × List Int
abbrev f17v1.Ty1 := Nat × Nat × Nat × Int × Nat × List Int × Nat × List Int
abbrev f17v1.Ty2 := Nat × Nat × Nat × Nat × List Int × Nat × List Int
abbrev f17v1.Ty3 := Bool × Nat × List Int × Nat × List Int
noncomputable def f17v1.c : Code := bodyOf Try.f17
def f17v1.s0t (_K : Nat) (rec : f17v1.Ty1 → Option ((f17v1.Ty0) ⊕ (f17v1.Ty2))) (t0_0 : Nat) (t0_1 : Nat) (t1 : Nat) (t5 : Int) (b0_0 : Nat) (b0_1 : List Int) (b1_0 : Nat) (b1_1 : List Int) : Option ((f17v1.Ty0) ⊕ (f17v1.Ty2)) :=
  bif (decide (t5 < ((t1 : Nat) : Int))) then
    bif decide (0 ≤ t5 ∧ t5 < ((t0_0 : Nat) : Int)) then
      let v8 := 0 + (Int.toNat t5)
      bif Nat.blt v8 b0_0 then
        bif decide (0 ≤ t5 ∧ t5 < ((t1 : Nat) : Int)) then
          let v10 := 0 + (Int.toNat t5)
          bif Nat.blt v10 b1_0 then
            bif ((List.getD b0_1 v8 0) != (List.getD b1_1 v10 0)) then
              some (.inl (t0_0, t0_1, t1, false, b0_0, b0_1, b1_0, b1_1))
            else
              rec (t0_0, t0_1, t1, (IntKind.wrap .i64 (t5 + 1)), b0_0, b0_1, b1_0, b1_1)
          else
            none
        else
          none
      else
        none
    else
      none
  else
    some (.inr (t0_0, t0_1, t1, b0_0, b0_1, b1_0, b1_1))
def f17v1.s0 (K : Nat) (rec : f17v1.Ty1 → Option ((f17v1.Ty0) ⊕ (f17v1.Ty2))) (x : f17v1.Ty1) : Option ((f17v1.Ty0) ⊕ (f17v1.Ty2)) := f17v1.s0t K rec x.1 x.2.1 x.2.2.1 x.2.2.2.1 x.2.2.2.2.1 x.2.2.2.2.2.1 x.2.2.2.2.2.2.1 x.2.2.2.2.2.2.2
noncomputable def f17v1.s0.b : Code := (findLoop 0 f17v1.c).getD .skip
def f17v1.s0.h : Hint := { lv := [0, 1, 5] }
def f17v1.s0.ho : Hint := { lv := [0, 1, 4] }
def f17v1.s0.shp (x : f17v1.Ty1) : VS := ⟨[(0, .sl 0 0 x.1 x.2.1), (1, .vw true 1 0 x.2.2.1 2), (5, .int .i64 x.2.2.2.1)], [(0, ([], 0, .nr x.2.2.2.2.1 x.2.2.2.2.2.1)), (1, ([.ints .u8 x.2.2.2.2.2.2.1 x.2.2.2.2.2.2.2], 0, .ro))], 3⟩
def f17v1.s0.inX : VS → Option (f17v1.Ty1)
  | ⟨[(0, .sl 0 0 t0_0 t0_1), (1, .vw true 1 0 t1 2), (5, .int .i64 t5)], [(0, ([], 0, .nr b0_0 b0_1)), (1, ([.ints .u8 b1_0 b1_1], 0, .ro))], 3⟩ => some (t0_0, t0_1, t1, t5, b0_0, b0_1, b1_0, b1_1)
  | _ => none
def f17v1.s0.o0 (y : f17v1.Ty0) : VS := ⟨[(0, .sl 0 0 y.1 y.2.1), (1, .vw true 1 0 y.2.2.1 2), (4, .bool y.2.2.2.1)], [(0, ([], 0, .nr y.2.2.2.2.1 y.2.2.2.2.2.1)), (1, ([.ints .u8 y.2.2.2.2.2.2.1 y.2.2.2.2.2.2.2], 0, .ro))], 3⟩
def f17v1.s0.o1 (y : f17v1.Ty2) : VS := ⟨[(0, .sl 0 0 y.1 y.2.1), (1, .vw true 1 0 y.2.2.1 2)], [(0, ([], 0, .nr y.2.2.2.1 y.2.2.2.2.1)), (1, ([.ints .u8 y.2.2.2.2.2.1 y.2.2.2.2.2.2], 0, .ro))], 3⟩
def f17v1.s0.des : ∀ α : Type, ((f17v1.Ty0) ⊕ (f17v1.Ty2)) → (Ex → VS → Option α) → Option α := (desA (des1 (.ret) f17v1.s0.o0) (des1 (.exit 0) f17v1.s0.o1))
def f17v1.s0.out : (f17v1.Ty0) ⊕ (f17v1.Ty2) → Ex × VS := (alt (fun y => (.ret, f17v1.s0.o0 y)) (fun y => (.exit 0, f17v1.s0.o1 y)))
theorem f17v1.s0.desOK : ∀ α y (k : Ex → VS → Option α), f17v1.s0.des α y k = k (f17v1.s0.out y).1 (f17v1.s0.out y).2 := (desA_ok (fun _ _ _ => rfl) (fun _ _ _ => rfl))
def f17v1.s0.inY : Ex → VS → Option ((f17v1.Ty0) ⊕ (f17v1.Ty2))
  | .ret, ⟨[(0, .sl 0 0 t0_0 t0_1), (1, .vw true 1 0 t1 2), (4, .bool t4)], [(0, ([], 0, .nr b0_0 b0_1)), (1, ([.ints .u8 b1_0 b1_1], 0, .ro))], 3⟩ => some (.inl (t0_0, t0_1, t1, t4, b0_0, b0_1, b1_0, b1_1))
  | .exit 0, ⟨[(0, .sl 0 0 t0_0 t0_1), (1, .vw true 1 0 t1 2)], [(0, ([], 0, .nr b0_0 b0_1)), (1, ([.ints .u8 b1_0 b1_1], 0, .ro))], 3⟩ => some (.inr (t0_0, t0_1, t1, b0_0, b0_1, b1_0, b1_1))
  | _, _ => none
def f17v1.lp (K : Nat) : Nat → Option (Hint × Summ) := tabLp [(0, f17v1.s0.h, summOf (iter (f17v1.s0 K) K) f17v1.s0.inX f17v1.s0.des)]
noncomputable def f17v1.tab (_K : Nat) : List (Nat × Entry) := []
theorem f17v1.tabOK (K : Nat) : SpecOK Try.prog (tabSp (f17v1.tab K)) := tab_ok ( tab_nil)
theorem f17v1.s0.eq (K : Nat) (rec : f17v1.Ty1 → Option ((f17v1.Ty0) ⊕ (f17v1.Ty2))) (x : f17v1.Ty1) : f17v1.s0 K rec x = roundL (getA tys) (tabSp (f17v1.tab K)) 45 3 (f17v1.lp K) 400 f17v1.s0.b f17v1.s0.h f17v1.s0.ho f17v1.s0.shp f17v1.s0.inX f17v1.s0.inY rec x := by kernel_rfl
theorem f17v1.s0.lok (K : Nat) : LoopsOK Try.prog 45 3 (f17v1.lp K) f17v1.s0.b := loops_ok (by
  have h : loopsIn (f17v1.lp K) f17v1.s0.b = [] := by kernel_rfl
  rw [h]; simp)
theorem f17v1.s0.ok (K : Nat) : SummOK Try.prog 45 3 (summOf (iter (f17v1.s0 K) K) f17v1.s0.inX f17v1.s0.des) f17v1.s0.b :=
  loop_ok mix tys_ok (f17v1.tabOK K) (h := f17v1.s0.h) (ho := f17v1.s0.ho) (shp := f17v1.s0.shp) (inX := f17v1.s0.inX) (des := f17v1.s0.des) (out := f17v1.s0.out) (inY := f17v1.s0.inY) (fuel := 400)
    (by intro st x h; unfold f17v1.s0.inX at h; split at h <;> simp at h; subst h; rfl)
    (by intro e st y h; unfold f17v1.s0.inY at h; split at h <;> simp at h <;> subst h <;> rfl)
    f17v1.s0.desOK (f17v1.s0.lok K) (f17v1.s0 K) (f17v1.s0.eq K) K
theorem f17v1.loops (K : Nat) : LoopsOK Try.prog 45 3 (f17v1.lp K) f17v1.c := loops_ok (by
  have h : loopsIn (f17v1.lp K) f17v1.c = [(0, f17v1.s0.b)] := by kernel_rfl
  rw [h]
  intro p hp
  simp only [List.mem_cons, List.not_mem_nil, or_false] at hp
  rcases hp with rfl
  · exact ⟨_, rfl, (f17v1.s0.ok K)⟩)
def f17v1.T (K : Nat) (a0_0 : Nat) (a0_1 : Nat) (a1 : Nat) (m0_0 : Nat) (m0_1 : List Int) (m1_0 : Nat) (m1_1 : List Int) : Option (f17v1.Ty3) :=
  bif (((a0_0 : Nat) : Int) != ((a1 : Nat) : Int)) then
    some (false, m0_0, m0_1, m1_0, m1_1)
  else
    bif (decide (((a0_1 : Nat) : Int) ≤ ((a1 : Nat) : Int))) then
      some (false, m0_0, m0_1, m1_0, m1_1)
    else
      (iter (f17v1.s0 K) K (a0_0, a0_1, a1, 0, m0_0, m0_1, m1_0, m1_1)).bind fun y13 =>
      alt (fun y14 =>
        some (y14.2.2.2.1, y14.2.2.2.2.1, y14.2.2.2.2.2.1, y14.2.2.2.2.2.2.1, y14.2.2.2.2.2.2.2)) (fun y15 =>
        let v17 := IntKind.wrap .i64 (((y15.2.2.1 : Nat) : Int) + 1)
        bif (decide (0 ≤ v17 ∧ v17 ≤ ((y15.2.1 : Nat) : Int)) && true) then
          let v19 := ((y15.2.2.1 : Nat) : Int)
          bif decide (0 ≤ v19 ∧ v19 < (((Int.toNat v17) : Nat) : Int)) then
            let v20 := 0 + (Int.toNat v19)
            bif Nat.blt v20 y15.2.2.2.1 then
              some (((List.getD y15.2.2.2.2.1 v20 0) == 77), y15.2.2.2.1, y15.2.2.2.2.1, y15.2.2.2.2.2.1, y15.2.2.2.2.2.2)
            else
              none
          else
            none
        else
          none) y13
def f17v1.F (K : Nat) (x : f17v1.Ty2) : Option (f17v1.Ty3) := f17v1.T K x.1 x.2.1 x.2.2.1 x.2.2.2.1 x.2.2.2.2.1 x.2.2.2.2.2.1 x.2.2.2.2.2.2
def f17v1.av (x : f17v1.Ty2) : List VV := [.sl 0 0 x.1 x.2.1, .vw true 1 0 x.2.2.1 2]
def f17v1.bl (x : f17v1.Ty2) : List (Nat × Blk) := [(0, ([], 0, .nr x.2.2.2.1 x.2.2.2.2.1)), (1, ([.ints .u8 x.2.2.2.2.2.1 x.2.2.2.2.2.2], 0, .ro))]
def f17v1.inA : VS → Option (f17v1.Ty2)
  | ⟨[(0, .sl 0 0 a0_0 a0_1), (1, .vw true 1 0 a1 2)], [(0, ([], 0, .nr m0_0 m0_1)), (1, ([.ints .u8 m1_0 m1_1], 0, .ro))], 3⟩ => some (a0_0, a0_1, a1, m0_0, m0_1, m1_0, m1_1)
  | _ => none
def f17v1.o0 (y : f17v1.Ty3) : VS := ⟨[(0, .bool y.1)], [(0, ([], 0, .nr y.2.1 y.2.2.1)), (1, ([.ints .u8 y.2.2.2.1 y.2.2.2.2], 0, .ro))], 3⟩
def f17v1.des : ∀ α : Type, (f17v1.Ty3) → (VS → Option α) → Option α := (dv1 f17v1.o0)
def f17v1.out : f17v1.Ty3 → VS := f17v1.o0
def f17v1.inR : VS → Option (f17v1.Ty3)
  | ⟨[(0, .bool y)], [(0, ([], 0, .nr z0_0 z0_1)), (1, ([.ints .u8 z1_0 z1_1], 0, .ro))], 3⟩ => some (y, z0_0, z0_1, z1_0, z1_1)
  | _ => none
noncomputable def f17v1.E (K : Nat) : Entry := genE 3 f17v1.inA (f17v1.F K) f17v1.des
theorem f17v1.eq (K : Nat) (x : f17v1.Ty2) : f17v1.F K x = xrun (getA tys) (tabSp (f17v1.tab K)) Try.f17.ntmps 3 (f17v1.lp K) 400 f17v1.c ⟨initL 0 (f17v1.av x), f17v1.bl x, 3⟩ (contF (getA tys) 3 Try.f17.results.toList f17v1.inR) := by kernel_rfl
theorem f17v1.ok (K : Nat) : EntryOK Try.prog 17 (f17v1.E K) :=
  gen_ok mix tys_ok (f17v1.tabOK K) Try.func17 (by kernel_rfl : Try.f17.body = some f17v1.c) (by kernel_rfl) (f17v1.loops K) (av := f17v1.av) (bl := f17v1.bl) (out := f17v1.out) (fuel := 400)
    (by intro s x h; unfold f17v1.inA at h; split at h <;> simp at h; subst h; rfl) (fun _ => Nat.le_of_ble_eq_true rfl)
    (by intro s y h; unfold f17v1.inR at h; split at h <;> simp at h <;> subst h <;> rfl) (fun _ _ _ => rfl) (f17v1.eq K)
end Go.Proofs

namespace Go.Proofs
open Go.VM
abbrev f18.Ty0 := Nat × Nat × Nat × Bool × Nat × List Ent × List Ent
abbrev f18.Ty1 := Nat × Nat × Nat × Int × Nat × List Ent × List Ent
abbrev f18.Ty2 := Nat × Nat × Nat × Nat × List Ent × List Ent
abbrev f18.Ty3 := Bool × Nat × List Ent × List Ent
noncomputable def f18.c : Code := bodyOf Try.f18
def f18.s0t (K : Nat) (rec : f18.Ty1 → Option ((f18.Ty0) ⊕ (f18.Ty2))) (t0_0 : Nat) (t0_1 : Nat) (t1 : Nat) (t5 : Int) (b0_0 : Nat) (b0_1 : List Ent) (b1 : List Ent) : Option ((f18.Ty0) ⊕ (f18.Ty2)) :=
  bif (decide (t5 < ((t1 : Nat) : Int))) then
    bif decide (0 ≤ t5 ∧ t5 < ((t0_0 : Nat) : Int)) then
      let v8 := 0 + (Int.toNat t5)
      bif Nat.blt v8 (List.length b0_1) then
        bif decide (0 ≤ t5 ∧ t5 < ((t1 : Nat) : Int)) then
          let v13 := 0 + (Int.toNat t5)
          bif Nat.blt v13 (List.length b1) then
            (f17v1.F K (((entAt b0_1 v8).1), ((entAt b0_1 v8).2.1), ((entAt b1 v13).1), ((entAt b0_1 v8).2.1), ((entAt b0_1 v8).2.2), ((entAt b1 v13).1), ((entAt b1 v13).2.2))).bind fun y17 =>
            bif !y17.1 then
              some (.inl (t0_0, t0_1, t1, false, b0_0, b0_1, b1))
            else
              rec (t0_0, t0_1, t1, (IntKind.wrap .i64 (t5 + 1)), b0_0, b0_1, b1)
          else
            none
        else
          none
      else
        none
    else
      none
  else
    some (.inr (t0_0, t0_1, t1, b0_0, b0_1, b1))
def f18.s0 (K : Nat) (rec : f18.Ty1 → Option ((f18.Ty0) ⊕ (f18.Ty2))) (x : f18.Ty1) : Option ((f18.Ty0) ⊕ (f18.Ty2)) := f18.s0t K rec x.1 x.2.1 x.2.2.1 x.2.2.2.1 x.2.2.2.2.1 x.2.2.2.2.2.1 x.2.2.2.2.2.2
noncomputable def f18.s0.b : Code := (findLoop 0 f18.c).getD .skip
def f18.s0.h : Hint := { lv := [0, 1, 5] }
def f18.s0.ho : Hint := { lv := [0, 1, 4] }
def f18.s0.shp (x : f18.Ty1) : VS := ⟨[(0, .sl 0 0 x.1 x.2.1), (1, .vw true 1 0 x.2.2.1 2), (5, .int .i64 x.2.2.2.1)], [(0, ([], 22, .rm x.2.2.2.2.1 true 3 x.2.2.2.2.2.1)), (1, ([], 0, .rr false 4 x.2.2.2.2.2.2))], 5⟩
def f18.s0.inX : VS → Option (f18.Ty1)
  | ⟨[(0, .sl 0 0 t0_0 t0_1), (1, .vw true 1 0 t1 2), (5, .int .i64 t5)], [(0, ([], 22, .rm b0_0 true 3 b0_1)), (1, ([], 0, .rr false 4 b1))], 5⟩ => some (t0_0, t0_1, t1, t5, b0_0, b0_1, b1)
  | _ => none
def f18.s0.o0 (y : f18.Ty0) : VS := ⟨[(0, .sl 0 0 y.1 y.2.1), (1, .vw true 1 0 y.2.2.1 2), (4, .bool y.2.2.2.1)], [(0, ([], 22, .rm y.2.2.2.2.1 true 3 y.2.2.2.2.2.1)), (1, ([], 0, .rr false 4 y.2.2.2.2.2.2))], 5⟩
def f18.s0.o1 (y : f18.Ty2) : VS := ⟨[(0, .sl 0 0 y.1 y.2.1), (1, .vw true 1 0 y.2.2.1 2)], [(0, ([], 22, .rm y.2.2.2.1 true 3 y.2.2.2.2.1)), (1, ([], 0, .rr false 4 y.2.2.2.2.2))], 5⟩
def f18.s0.des : ∀ α : Type, ((f18.Ty0) ⊕ (f18.Ty2)) → (Ex → VS → Option α) → Option α := (desA (des1 (.ret) f18.s0.o0) (des1 (.exit 0) f18.s0.o1))
def f18.s0.out : (f18.Ty0) ⊕ (f18.Ty2) → Ex × VS := (alt (fun y => (.ret, f18.s0.o0 y)) (fun y => (.exit 0, f18.s0.o1 y)))
theorem f18.s0.desOK : ∀ α y (k : Ex → VS → Option α), f18.s0.des α y k = k (f18.s0.out y).1 (f18.s0.out y).2 := (desA_ok (fun _ _ _ => rfl) (fun _ _ _ => rfl))
def f18.s0.inY : Ex → VS → Option ((f18.Ty0) ⊕ (f18.Ty2))
  | .ret, ⟨[(0, .sl 0 0 t0_0 t0_1), (1, .vw true 1 0 t1 2), (4, .bool t4)], [(0, ([], 22, .rm b0_0 true 3 b0_1)), (1, ([], 0, .rr false 4 b1))], 5⟩ => some (.inl (t0_0, t0_1, t1, t4, b0_0, b0_1, b1))
  | .exit 0, ⟨[(0, .sl 0 0 t0_0 t0_1), (1, .vw true 1 0 t1 2)], [(0, ([], 22, .rm b0_0 true 3 b0_1)), (1, ([], 0, .rr false 4 b1))], 5⟩ => some (.inr (t0_0, t0_1, t1, b0_0, b0_1, b1))
  | _, _ => none
def f18.lp (K : Nat) : Nat → Option (Hint × Summ) := tabLp [(0, f18.s0.h, summOf (iter (f18.s0 K) K) f18.s0.inX f18.s0.des)]
noncomputable def f18.tab (K : Nat) : List (Nat × Entry) := [(17, (f17v1.E K))]
theorem f18.tabOK (K : Nat) : SpecOK Try.prog (tabSp (f18.tab K)) := tab_ok ((tab_cons (f17v1.ok K) tab_nil))
theorem f18.s0.eq (K : Nat) (rec : f18.Ty1 → Option ((f18.Ty0) ⊕ (f18.Ty2))) (x : f18.Ty1) : f18.s0 K rec x = roundL (getA tys) (tabSp (f18.tab K)) 53 5 (f18.lp K) 400 f18.s0.b f18.s0.h f18.s0.ho f18.s0.shp f18.s0.inX f18.s0.inY rec x := by kernel_rfl
theorem f18.s0.lok (K : Nat) : LoopsOK Try.prog 53 5 (f18.lp K) f18.s0.b := loops_ok (by
  have h : loopsIn (f18.lp K) f18.s0.b = [] := by kernel_rfl
  rw [h]; simp)
theorem f18.s0.ok (K : Nat) : SummOK Try.prog 53 5 (summOf (iter (f18.s0 K) K) f18.s0.inX f18.s0.des) f18.s0.b :=
  loop_ok mix tys_ok (f18.tabOK K) (h := f18.s0.h) (ho := f18.s0.ho) (shp := f18.s0.shp) (inX := f18.s0.inX) (des := f18.s0.des) (out := f18.s0.out) (inY := f18.s0.inY) (fuel := 400)
    (by intro st x h; unfold f18.s0.inX at h; split at h <;> simp at h; subst h; rfl)
    (by intro e st y h; unfold f18.s0.inY at h; split at h <;> simp at h <;> subst h <;> rfl)
    f18.s0.desOK (f18.s0.lok K) (f18.s0 K) (f18.s0.eq K) K
theorem f18.loops (K : Nat) : LoopsOK Try.prog 53 5 (f18.lp K) f18.c := loops_ok (by
  have h : loopsIn (f18.lp K) f18.c = [(0, f18.s0.b)] := by kernel_rfl
  rw [h]
  intro p hp
  simp only [List.mem_cons, List.not_mem_nil, or_false] at hp
  rcases hp with rfl
  · exact ⟨_, rfl, (f18.s0.ok K)⟩)
def f18.T (K : Nat) (a0_0 : Nat) (a0_1 : Nat) (a1 : Nat) (m0_0 : Nat) (m0_1 : List Ent) (m1 : List Ent) : Option (f18.Ty3) :=
  bif (((a0_0 : Nat) : Int) != ((a1 : Nat) : Int)) then
    some (false, m0_0, m0_1, m1)
  else
    bif (decide (((a0_1 : Nat) : Int) ≤ ((a1 : Nat) : Int))) then
      some (false, m0_0, m0_1, m1)
    else
      (iter (f18.s0 K) K (a0_0, a0_1, a1, 0, m0_0, m0_1, m1)).bind fun y19 =>
      alt (fun y20 =>
        some (y20.2.2.2.1, y20.2.2.2.2.1, y20.2.2.2.2.2.1, y20.2.2.2.2.2.2)) (fun y21 =>
        let v23 := IntKind.wrap .i64 (((y21.2.2.1 : Nat) : Int) + 1)
        bif (decide (0 ≤ v23 ∧ v23 ≤ ((y21.2.1 : Nat) : Int)) && true) then
          let v25 := ((y21.2.2.1 : Nat) : Int)
          bif decide (0 ≤ v25 ∧ v25 < (((Int.toNat v23) : Nat) : Int)) then
            let v26 := 0 + (Int.toNat v25)
            bif Nat.blt v26 (List.length y21.2.2.2.2.1) then
              let v27 := (entAt y21.2.2.2.2.1 v26).1
              bif (((v27 : Nat) : Int) == 1) then
                bif decide ((0 : Int) ≤ 0 ∧ 0 < ((v27 : Nat) : Int)) then
                  bif Nat.blt 0 ((entAt y21.2.2.2.2.1 v26).2.1) then
                    some (((List.getD ((entAt y21.2.2.2.2.1 v26).2.2) 0 0) == 77), y21.2.2.2.1, y21.2.2.2.2.1, y21.2.2.2.2.2)
                  else
                    none
                else
                  none
              else
                some (false, y21.2.2.2.1, y21.2.2.2.2.1, y21.2.2.2.2.2)
            else
              none
          else
            none
        else
          none) y19
def f18.F (K : Nat) (x : f18.Ty2) : Option (f18.Ty3) := f18.T K x.1 x.2.1 x.2.2.1 x.2.2.2.1 x.2.2.2.2.1 x.2.2.2.2.2
def f18.av (x : f18.Ty2) : List VV := [.sl 0 0 x.1 x.2.1, .vw true 1 0 x.2.2.1 2]
def f18.bl (x : f18.Ty2) : List (Nat × Blk) := [(0, ([], 22, .rm x.2.2.2.1 true 3 x.2.2.2.2.1)), (1, ([], 0, .rr false 4 x.2.2.2.2.2))]
def f18.inA : VS → Option (f18.Ty2)
  | ⟨[(0, .sl 0 0 a0_0 a0_1), (1, .vw true 1 0 a1 2)], [(0, ([], 22, .rm m0_0 true 3 m0_1)), (1, ([], 0, .rr false 4 m1))], 5⟩ => some (a0_0, a0_1, a1, m0_0, m0_1, m1)
  | _ => none
def f18.o0 (y : f18.Ty3) : VS := ⟨[(0, .bool y.1)], [(0, ([], 22, .rm y.2.1 true 3 y.2.2.1)), (1, ([], 0, .rr false 4 y.2.2.2))], 5⟩
def f18.des : ∀ α : Type, (f18.Ty3) → (VS → Option α) → Option α := (dv1 f18.o0)
def f18.out : f18.Ty3 → VS := f18.o0
def f18.inR : VS → Option (f18.Ty3)
  | ⟨[(0, .bool y)], [(0, ([], 22, .rm z0_0 true 3 z0_1)), (1, ([], 0, .rr false 4 z1))], 5⟩ => some (y, z0_0, z0_1, z1)
  | _ => none
noncomputable def f18.E (K : Nat) : Entry := genE 5 f18.inA (f18.F K) f18.des
theorem f18.eq (K : Nat) (x : f18.Ty2) : f18.F K x = xrun (getA tys) (tabSp (f18.tab K)) Try.f18.ntmps 5 (f18.lp K) 400 f18.c ⟨initL 0 (f18.av x), f18.bl x, 5⟩ (contF (getA tys) 5 Try.f18.results.toList f18.inR) := by kernel_rfl
theorem f18.ok (K : Nat) : EntryOK Try.prog 18 (f18.E K) :=
  gen_ok mix tys_ok (f18.tabOK K) Try.func18 (by kernel_rfl : Try.f18.body = some f18.c) (by kernel_rfl) (f18.loops K) (av := f18.av) (bl := f18.bl) (out := f18.out) (fuel := 400)
    (by intro s x h; unfold f18.inA at h; split at h <;> simp at h; subst h; rfl) (fun _ => Nat.le_of_ble_eq_true rfl)
    (by intro s y h; unfold f18.inR at h; split at h <;> simp at h <;> subst h <;> rfl) (fun _ _ _ => rfl) (f18.eq K)
end Go.Proofs

namespace Go.Proofs
open Go.VM
def Rs.sh (e : Ent) : List Int := subI e.2.2 0 e.1
def Rs.ok (b : Nat) (ll : List Ent) : Prop := ∀ e ∈ ll, e.1 ≤ b ∧ octets (Rs.sh e)
def Rs.ents (ps : List (List Int)) : List Ent := ps.map fun l => (l.length, l.length, l)
def Rs.tw (e : Ent) : Ent := (e.1, e.1 + 1, Rs.sh e ++ [77])
def Rs.cat (ll : List Ent) : List Int := ll.flatMap Rs.sh
def Rs.tot (ll : List Ent) : Nat := (ll.map (·.1)).sum
theorem Rs.sh_length (e : Ent) : (Rs.sh e).length = e.1 := subI_length _ _ _
theorem Rs.at_get {ll : List Ent} {i : Nat} (h : i < ll.length) : entAt ll i = ll[i] := by
  rw [entAt, List.getD_eq_getElem?_getD, List.getElem?_eq_getElem h]; rfl
theorem Rs.at_mem {ll : List Ent} {i : Nat} (h : i < ll.length) : entAt ll i ∈ ll := by
  rw [Rs.at_get h]; exact List.getElem_mem _
theorem Rs.take_next {ll : List Ent} {i : Nat} (h : i < ll.length) : ll.take (i + 1) = ll.take i ++ [entAt ll i] := by
  rw [List.take_add_one, List.getElem?_eq_getElem h, Rs.at_get h]; rfl
theorem Rs.tot_next {ll : List Ent} {i : Nat} (h : i < ll.length) : Rs.tot (ll.take (i + 1)) = Rs.tot (ll.take i) + (entAt ll i).1 := by
  rw [Rs.take_next h]; simp [Rs.tot]
theorem Rs.cat_next {ll : List Ent} {i : Nat} (h : i < ll.length) : Rs.cat (ll.take (i + 1)) = Rs.cat (ll.take i) ++ Rs.sh (entAt ll i) := by
  rw [Rs.take_next h]; simp [Rs.cat]
theorem Rs.tot_mem {ll : List Ent} {e : Ent} (h : e ∈ ll) : e.1 ≤ Rs.tot ll := by
  induction ll with
  | nil => cases h
  | cons a l ih =>
    simp only [Rs.tot, List.map_cons, List.sum_cons] at ih ⊢
    rcases List.mem_cons.1 h with rfl | h
    · omega
    · have := ih h; omega
theorem Rs.cat_length (ll : List Ent) : (Rs.cat ll).length = Rs.tot ll := by
  induction ll with
  | nil => rfl
  | cons a l ih => simp only [Rs.cat, Rs.tot, List.flatMap_cons, List.length_append, List.map_cons, List.sum_cons, Rs.sh_length] at ih ⊢; rw [ih]
theorem Rs.cat_octets {b : Nat} {ll : List Ent} (h : Rs.ok b ll) : octets (Rs.cat ll) := by
  intro x hx
  obtain ⟨e, he, hx⟩ := List.mem_flatMap.1 hx
  exact (h e he).2 x hx
theorem Rs.tot_take (ll : List Ent) (i : Nat) : Rs.tot (ll.take i) ≤ Rs.tot ll := by
  induction ll generalizing i with
  | nil => simp
  | cons a l ih =>
    cases i with
    | zero => simp [Rs.tot]
    | succ i => simp only [Rs.tot, List.take_succ_cons, List.map_cons, List.sum_cons] at ih ⊢; have := ih i; omega
theorem Rs.ents_length (ps : List (List Int)) : (Rs.ents ps).length = ps.length := by simp [Rs.ents]
theorem Rs.ents_sh {ps : List (List Int)} {e : Ent} (h : e ∈ Rs.ents ps) : Rs.sh e ∈ ps ∧ e.2.2 = Rs.sh e := by
  obtain ⟨l, hl, rfl⟩ := List.mem_map.1 h
  have : Rs.sh (l.length, l.length, l) = l := subI_self l rfl
  rw [this]
  exact ⟨hl, rfl⟩
theorem Rs.ents_ok {ps : List (List Int)} {b : Nat} (h : ∀ p ∈ ps, octets p) (hb : ∀ e ∈ Rs.ents ps, e.1 ≤ b) : Rs.ok b (Rs.ents ps) := fun e he => ⟨hb e he, h _ (Rs.ents_sh he).1⟩
theorem Rs.tw_sh (e : Ent) : Rs.sh (Rs.tw e) = Rs.sh e := subI_front _ [77] (Rs.sh_length e)
theorem Rs.tw_ok {b : Nat} {ll : List Ent} (h : Rs.ok b ll) : Rs.ok b (ll.map Rs.tw) := by
  intro e he
  obtain ⟨a, ha, rfl⟩ := List.mem_map.1 he
  rw [Rs.tw_sh]
  exact h a ha
theorem Rs.tw_cat (ll : List Ent) : Rs.cat (ll.map Rs.tw) = Rs.cat ll := by
  simp only [Rs.cat, List.flatMap_map, Rs.tw_sh]
theorem Rs.blt {a b : Nat} (h : a < b) : Nat.blt a b = true := by simpa [Nat.blt_eq] using h
theorem f46.spec (K N : Nat) (ll : List Ent) (hN : ll.length = N) (hb : ∀ e ∈ ll, e.1 ≤ 140737488355328) (h60 : N ≤ 1000) (hK : N < K) : ∃ z, f46.F K (N, ll) = some (z, ll) ∧ (z ≤ 20000 → z = ((N + Rs.tot ll : Nat) : Int)) := by
  obtain ⟨y, hy, hI⟩ := iter_inv (stp := f46.s0 K) (fun m x => ∃ i, i ≤ N ∧ m = N - i ∧ N + Rs.tot (ll.take i) ≤ 1048576 + 140737488355328 ∧ x = (N, ((N + Rs.tot (ll.take i) : Nat) : Int), (i : Int), ll)) (fun y => y.2 = ll ∧ (y.1 ≤ 20000 → y.1 = ((N + Rs.tot ll : Nat) : Int))) (by
    rintro m x ⟨i, hi, rfl, hs, rfl⟩
    by_cases h : i < N
    · by_cases h2 : ((N + Rs.tot (ll.take i) : Nat) : Int) ≤ 1048576
      · right
        have hm := Rs.at_mem (ll := ll) (i := i) (by omega)
        have hb' := hb _ hm
        have ht := Rs.tot_next (ll := ll) (i := i) (by omega)
        refine ⟨_, N - (i + 1), by omega, ⟨i + 1, by omega, rfl, by omega, rfl⟩, fun rec => ?_⟩
        simp only [f46.s0, f46.s0t]
        rw [decide_eq_true (show (i : Int) < ((N : Nat) : Int) by omega), cond_t, decide_eq_true h2, cond_t, decide_eq_true (show (0 : Int) ≤ (i : Int) ∧ (i : Int) < ((N : Nat) : Int) by omega), cond_t, Int.toNat_natCast, Nat.zero_add, Rs.blt (show i < ll.length by omega), cond_t, Nat.zero_add, ble_true (Nat.le_refl _), Bool.and_self, Bool.and_self, cond_t]
        rw [show f78.F K ((entAt ll i).1, (entAt ll i).1, subI (entAt ll i).2.2 0 (entAt ll i).1) = some ((((entAt ll i).1 : Nat) : Int), (entAt ll i).1, subI (entAt ll i).2.2 0 (entAt ll i).1) from rfl, bind_s]
        simp only []
        rw [wrap_i _ (by omega) (by omega), wrap_i _ (by omega) (by omega), ht]
        congr 3
        omega
      · left
        refine ⟨(((N + Rs.tot (ll.take i) : Nat) : Int), ll), ⟨rfl, fun h3 => by simp only at h3; omega⟩, fun rec => ?_⟩
        simp only [f46.s0, f46.s0t]
        rw [decide_eq_true (show (i : Int) < ((N : Nat) : Int) by omega), cond_t, decide_eq_false h2, cond_f]
    · have hiN : i = N := by omega
      subst hiN
      left
      refine ⟨(((i + Rs.tot (ll.take i) : Nat) : Int), ll), ⟨rfl, fun _ => ?_⟩, fun rec => ?_⟩
      · simp only []
        rw [List.take_of_length_le (by omega)]
      · simp only [f46.s0, f46.s0t]
        rw [decide_eq_false (show ¬ (i : Int) < ((i : Nat) : Int) by omega), cond_f]) N _ ⟨0, Nat.zero_le _, rfl, by simp [Rs.tot]; omega, rfl⟩ K hK
  refine ⟨y.1, ?_, hy.2⟩
  simp only [f46.F, f46.T]
  rw [show ((N : Nat) : Int) = ((N + Rs.tot (ll.take 0) : Nat) : Int) by simp [Rs.tot]]
  rw [show iter (f46.s0 K) K (N, ((N + Rs.tot (ll.take 0) : Nat) : Int), 0, ll) = _ from hI, bind_s, ← hy.1]
theorem f11.spec (K N : Nat) (ll : List Ent) (hN : ll.length = N) (hb : ∀ e ∈ ll, e.1 ≤ 140737488355328) (hK : 1000 < K) : ∃ g, f11.F K (N, ll) = some (g, ll) ∧ (g = false → N ≤ 60 ∧ Rs.tot ll ≤ 20000) := by
  simp only [f11.F, f11.T]
  by_cases h : N > 60
  · exact ⟨true, by rw [decide_eq_true (show ((N : Nat) : Int) > 60 by omega), cond_t], fun h => by cases h⟩
  · obtain ⟨z, h1, h2⟩ := f46.spec K N ll hN hb (by omega) (by omega)
    refine ⟨decide (z > 20000), ?_, fun h3 => ?_⟩
    · rw [decide_eq_false (show ¬ ((N : Nat) : Int) > 60 by omega), cond_f, show Nat.beq N (List.length ll) = true by rw [hN]; exact Nat.beq_refl N, cond_t, h1, bind_s]
    · have := h2 (by have := of_decide_eq_false h3; omega)
      have := of_decide_eq_false h3
      omega
theorem f14.spec (K N : Nat) (ll : List Ent) (hN : ll.length = N) (hb : ∀ e ∈ ll, e.1 ≤ 1000000) (h60 : N ≤ 1000) (hK : 1000000 < K ∨ (∀ e ∈ ll, e.1 < K) ∧ N < K) :
    f14.F K (N, ll) = some (N, N + 1, ll, N + 1, ll.map Rs.tw ++ [(1, 1, [77])]) := by
  have hKN : N < K := by rcases hK with h | h <;> omega
  have := iter_for (stp := f14.s0 K) (N := N) (fun i => (N, i, N + 1, (i : Int), ll, N + 1, (ll.take i).map Rs.tw)) (y := some (N, N, N + 1, ll, N + 1, ll.map Rs.tw)) ?_ ?_ hKN
  · simp only [f14.F, f14.T]
    rw [wrap_i _ (by omega) (by omega), show ((N : Nat) : Int) + 1 = ((N + 1 : Nat) : Int) by omega, Int.toNat_natCast]
    have hl' : lenOK 0 ((N + 1 : Nat) : Int) 24 = true := by
      simp only [lenOK, Int.toNat_natCast]
      rw [decide_eq_true (show (0 : Int) ≤ 0 ∧ (0 : Int) ≤ ((N + 1 : Nat) : Int) by omega), fitB_true (by omega), fitB_true (by omega)]; rfl
    rw [hl', cond_t, show iter (f14.s0 K) K (N, 0, N + 1, 0, ll, N + 1, []) = _ from this, bind_s]
    simp only []
    rw [List.length_map, hN, ble_true (Nat.le_refl N), ble_true (Nat.le_refl (N + 1)), Bool.and_self, Bool.and_self, cond_t, decide_eq_true (show (0 : Int) ≤ ((N : Nat) : Int) ∧ ((N : Nat) : Int) ≤ ((N + 1 : Nat) : Int) by omega), Bool.and_self, cond_t, Int.toNat_natCast, List.take_of_length_le (by rw [List.length_map]; omega)]
  · intro i hi rec
    have hm := Rs.at_mem (ll := ll) (i := i) (by omega)
    have hb' := hb _ hm
    have hKe : (entAt ll i).1 < K := by rcases hK with h | h; omega; exact h.1 _ hm
    simp only [f14.s0, f14.s0t]
    rw [decide_eq_true (show (i : Int) < ((N : Nat) : Int) by omega), cond_t, decide_eq_true (show (0 : Int) ≤ (i : Int) ∧ (i : Int) < ((N : Nat) : Int) by omega), cond_t, Int.toNat_natCast, Nat.zero_add, Rs.blt (show i < ll.length by omega), cond_t, Nat.zero_add, ble_true (Nat.le_refl _), Bool.and_self, Bool.and_self, cond_t,
      show f13.F K ((entAt ll i).1, (entAt ll i).1, subI (entAt ll i).2.2 0 (entAt ll i).1) = _ from f13.spec K (entAt ll i).1 (Rs.sh (entAt ll i)) (Rs.sh_length _) (by omega) hKe, bind_s]
    simp only []
    have hl : ((ll.take i).map Rs.tw).length = i := by rw [List.length_map, List.length_take]; omega
    rw [show Nat.beq ((entAt ll i).1 + 1) ((entAt ll i).1 + 1) = true from Nat.beq_refl _, ble_true (show (entAt ll i).1 ≤ (entAt ll i).1 + 1 by omega), hl, ble_true (Nat.le_refl i), ble_true (show i + 1 ≤ N + 1 by omega), ble_true (Nat.le_refl (N + 1)), Bool.and_self, Bool.and_self, Bool.and_self, Bool.and_self, cond_t, wrap_i _ (by omega) (by omega), List.take_of_length_le (Nat.le_of_eq hl), Rs.take_next (show i < ll.length by omega), List.map_append]
    rfl
  · intro rec
    simp only [f14.s0, f14.s0t]
    rw [decide_eq_false (show ¬ ((N : Nat) : Int) < ((N : Nat) : Int) by omega), cond_f, List.take_of_length_le (by omega)]
theorem f17v1.spec (K n : Nat) (l : List Int) (hl : l.length = n) (hn : n ≤ 1000000000) (hK : n < K) : f17v1.F K (n, n + 1, n, n + 1, l ++ [77], n, l) = some (true, n + 1, l ++ [77], n, l) := by
  have := iter_for (stp := f17v1.s0 K) (N := n) (fun i => (n, n + 1, n, (i : Int), n + 1, l ++ [77], n, l)) (y := some (.inr (n, n + 1, n, n + 1, l ++ [77], n, l))) ?_ ?_ hK
  · simp only [f17v1.F, f17v1.T]
    rw [show (((n : Nat) : Int) != ((n : Nat) : Int)) = false from by simp, cond_f, decide_eq_false (show ¬ (((n + 1 : Nat) : Int) ≤ ((n : Nat) : Int)) by omega), cond_f,
      show iter (f17v1.s0 K) K (n, n + 1, n, 0, n + 1, l ++ [77], n, l) = _ from this, bind_s, altr]
    simp only []
    rw [wrap_i _ (by omega) (by omega), show ((n : Nat) : Int) + 1 = ((n + 1 : Nat) : Int) by omega, decide_eq_true (show (0 : Int) ≤ ((n + 1 : Nat) : Int) ∧ ((n + 1 : Nat) : Int) ≤ ((n + 1 : Nat) : Int) by omega), Bool.and_self, cond_t, Int.toNat_natCast,
      decide_eq_true (show (0 : Int) ≤ ((n : Nat) : Int) ∧ ((n : Nat) : Int) < ((n + 1 : Nat) : Int) by omega), cond_t, Int.toNat_natCast, Nat.zero_add, show Nat.blt n (n + 1) = true from by simp [Nat.blt_eq], cond_t]
    have : (l ++ [77]).getD n 0 = 77 := by rw [List.getD_eq_getElem?_getD, List.getElem?_append_right (by omega), hl]; simp
    rw [this]
    rfl
  · intro i hi rec
    simp only [f17v1.s0, f17v1.s0t]
    have hg : (l ++ [77]).getD i 0 = l.getD i 0 := by rw [List.getD_eq_getElem?_getD, List.getElem?_append_left (by omega), List.getD_eq_getElem?_getD]
    rw [decide_eq_true (show (i : Int) < ((n : Nat) : Int) by omega), cond_t, decide_eq_true (show (0 : Int) ≤ (i : Int) ∧ (i : Int) < ((n : Nat) : Int) by omega), cond_t, Int.toNat_natCast, Nat.zero_add, show Nat.blt i (n + 1) = true from by simp [Nat.blt_eq]; omega, cond_t, cond_t, show Nat.blt i n = true from by simp [Nat.blt_eq]; omega, cond_t,
      hg, show (l.getD i 0 != l.getD i 0) = false from by simp, cond_f, wrap_i _ (by omega) (by omega)]
    rfl
  · intro rec
    simp only [f17v1.s0, f17v1.s0t]
    rw [decide_eq_false (show ¬ ((n : Nat) : Int) < ((n : Nat) : Int) by omega), cond_f]
theorem Rs.at_tw (ll : List Ent) (i : Nat) (h : i < ll.length) (z : List Ent) : entAt (ll.map Rs.tw ++ z) i = Rs.tw (entAt ll i) := by
  rw [Rs.at_get (by rw [List.length_append, List.length_map]; omega), Rs.at_get h, List.getElem_append_left (by rw [List.length_map]; exact h), List.getElem_map]
theorem f18.spec (K N : Nat) (ll : List Ent) (hN : ll.length = N) (hs : ∀ e ∈ ll, e.2.2 = Rs.sh e) (hb : ∀ e ∈ ll, e.1 ≤ 1000000) (h60 : N ≤ 1000) (hK : N < K) (hK2 : ∀ e ∈ ll, e.1 < K) :
    f18.F K (N, N + 1, N, N + 1, ll.map Rs.tw ++ [(1, 1, [77])], ll) = some (true, N + 1, ll.map Rs.tw ++ [(1, 1, [77])], ll) := by
  have := iter_for (stp := f18.s0 K) (N := N) (fun i => (N, N + 1, N, (i : Int), N + 1, ll.map Rs.tw ++ [(1, 1, [77])], ll)) (y := some (.inr (N, N + 1, N, N + 1, ll.map Rs.tw ++ [(1, 1, [77])], ll))) ?_ ?_ hK
  · simp only [f18.F, f18.T]
    rw [show (((N : Nat) : Int) != ((N : Nat) : Int)) = false from by simp, cond_f, decide_eq_false (show ¬ (((N + 1 : Nat) : Int) ≤ ((N : Nat) : Int)) by omega), cond_f,
      show iter (f18.s0 K) K (N, N + 1, N, 0, N + 1, ll.map Rs.tw ++ [(1, 1, [77])], ll) = _ from this, bind_s, altr]
    simp only []
    have hlen : (ll.map Rs.tw ++ [(1, 1, [77])]).length = N + 1 := by simp [hN]
    have hat : entAt (ll.map Rs.tw ++ [(1, 1, [77])]) N = (1, 1, [77]) := by
      rw [Rs.at_get (by omega), List.getElem_append_right (by rw [List.length_map]; omega)]
      simp [hN]
    rw [wrap_i _ (by omega) (by omega), show ((N : Nat) : Int) + 1 = ((N + 1 : Nat) : Int) by omega, decide_eq_true (show (0 : Int) ≤ ((N + 1 : Nat) : Int) ∧ ((N + 1 : Nat) : Int) ≤ ((N + 1 : Nat) : Int) by omega), Bool.and_self, cond_t, Int.toNat_natCast,
      decide_eq_true (show (0 : Int) ≤ ((N : Nat) : Int) ∧ ((N : Nat) : Int) < ((N + 1 : Nat) : Int) by omega), cond_t, Int.toNat_natCast, Nat.zero_add, hlen, Rs.blt (Nat.lt_succ_self N), cond_t, hat]
    rfl
  · intro i hi rec
    have hi' : i < ll.length := by omega
    have hm := Rs.at_mem hi'
    have hl1 : i < (ll.map Rs.tw ++ [(1, 1, [77])]).length := by rw [List.length_append, List.length_map]; omega
    simp only [f18.s0, f18.s0t]
    rw [decide_eq_true (show (i : Int) < ((N : Nat) : Int) by omega), cond_t, decide_eq_true (show (0 : Int) ≤ (i : Int) ∧ (i : Int) < ((N : Nat) : Int) by omega), cond_t, Int.toNat_natCast, Nat.zero_add, Rs.blt hl1, cond_t, cond_t, Rs.blt hi', cond_t, Rs.at_tw ll i hi', hs _ hm]
    rw [show f17v1.F K ((Rs.tw (entAt ll i)).1, (Rs.tw (entAt ll i)).2.1, (entAt ll i).1, (Rs.tw (entAt ll i)).2.1, (Rs.tw (entAt ll i)).2.2, (entAt ll i).1, Rs.sh (entAt ll i)) = _ from f17v1.spec K (entAt ll i).1 (Rs.sh (entAt ll i)) (Rs.sh_length _) (by have := hb _ hm; omega) (hK2 _ hm), bind_s]
    simp only []
    rw [Bool.not_true, cond_f, wrap_i _ (by omega) (by omega)]
    rfl
  · intro rec
    simp only [f18.s0, f18.s0t]
    rw [decide_eq_false (show ¬ ((N : Nat) : Int) < ((N : Nat) : Int) by omega), cond_f]
theorem f15v1.parts (K N n : Nat) (k : List Int) (ll : List Ent) (hN : ll.length = N) {b : Nat} (ho : Rs.ok b ll) (hb : b ≤ 1000000000) (hNb : N ≤ 1000000) (hK : N < K) (hK2 : 64 + b < K) (z32 kb m b0 s0 : List Int) (h0 : Int) (R : Sh.Rep m b0 h0 s0) (b8 : List Int) (h8 l8 : Int) (s8 : List Int) :
    ∃ b' h' s', iter (f15v1.s0 K) K (N, ((N : Nat) : Int), 0, n, k, ll, z32, kb, b0, h0, ((m.length % 18446744073709551616 : Nat) : Int), b8, h8, l8, s0, s8) = some (n, k, ll, z32, kb, b', h', (((m ++ Rs.cat ll).length % 18446744073709551616 : Nat) : Int), b8, h8, l8, s', s8) ∧ Sh.Rep (m ++ Rs.cat ll) b' h' s' := by
  obtain ⟨y, ⟨b', h', s', hy, R'⟩, hI⟩ := iter_inv (stp := f15v1.s0 K) (fun j x => ∃ i b' h' s', i ≤ N ∧ j = N - i ∧ Sh.Rep (m ++ Rs.cat (ll.take i)) b' h' s' ∧ x = (N, ((N : Nat) : Int), (i : Int), n, k, ll, z32, kb, b', h', (((m ++ Rs.cat (ll.take i)).length % 18446744073709551616 : Nat) : Int), b8, h8, l8, s', s8))
    (fun y => ∃ b' h' s', y = (n, k, ll, z32, kb, b', h', (((m ++ Rs.cat ll).length % 18446744073709551616 : Nat) : Int), b8, h8, l8, s', s8) ∧ Sh.Rep (m ++ Rs.cat ll) b' h' s') (by
    rintro j x ⟨i, b1, h1, s1, hi, rfl, R1, rfl⟩
    by_cases h : i < N
    · right
      have hi' : i < ll.length := by omega
      have hm := Rs.at_mem hi'
      obtain ⟨hb1, ho1⟩ := ho _ hm
      obtain ⟨b2, h2, s2, e2, R2⟩ := f50.spec K _ (entAt ll i).1 (Rs.sh (entAt ll i)) (Rs.sh_length _) ho1 (by omega) _ _ _ R1 (by omega)
      rw [List.append_assoc, ← Rs.cat_next hi'] at e2 R2
      refine ⟨_, N - (i + 1), by omega, ⟨i + 1, b2, h2, s2, by omega, rfl, R2, rfl⟩, fun rec => ?_⟩
      simp only [f15v1.s0, f15v1.s0t]
      rw [decide_eq_true (show (i : Int) < ((N : Nat) : Int) by omega), cond_t, decide_eq_true (show (0 : Int) ≤ (i : Int) ∧ (i : Int) < ((N : Nat) : Int) by omega), cond_t, Int.toNat_natCast, Nat.zero_add, Rs.blt hi', cond_t, Nat.zero_add, ble_true (Nat.le_refl _), Bool.and_self, Bool.and_self, cond_t]
      rw [show f50.F K ((entAt ll i).1, b1, h1, (((m ++ Rs.cat (ll.take i)).length % 18446744073709551616 : Nat) : Int), (entAt ll i).1, subI (entAt ll i).2.2 0 (entAt ll i).1, s1) = _ from e2, bind_s]
      simp only []
      rw [wrap_i _ (by omega) (by omega)]
      rfl
    · left
      have hiN : i = N := by omega
      subst hiN
      rw [List.take_of_length_le (show ll.length ≤ i by omega)] at R1 ⊢
      refine ⟨_, ⟨b1, h1, s1, rfl, R1⟩, fun rec => ?_⟩
      simp only [f15v1.s0, f15v1.s0t]
      rw [decide_eq_false (show ¬ (i : Int) < ((i : Nat) : Int) by omega), cond_f]) N _ ⟨0, b0, h0, s0, Nat.zero_le _, rfl, by simpa [Rs.cat] using R, rfl⟩ K hK
  refine ⟨b', h', s', ?_, R'⟩
  rw [← hy, ← hI]
  simp [Rs.cat]
end Go.Proofs

namespace Go.Proofs
open Go.VM
abbrev f16v1.Ty0 := Nat × Nat × Nat × Nat × Int × Nat × List Int × List Ent × List Int × Nat × List Int × Nat × List Int × Nat × List Int
abbrev f16v1.Ty1 := Nat × Nat × Nat × Int × Nat × List Int × List Ent × List Int × Nat × List Int × Nat × List Int
abbrev f16v1.Ty2 := Nat × Nat × Nat × Nat × List Int × List Ent × List Int × Nat × List Int × Nat × List Int
abbrev f16v1.Ty3 := Nat × Nat × Nat × List Int × List Ent × List Int × Nat × List Int × Nat × List Int
abbrev f16v1.Ty4 := Nat × Nat × Nat × List Int × List Ent × List Int × Nat × List Int
abbrev f16v1.Ty5 := Nat × Nat × Nat × List Int × List Ent
abbrev f16v1.Ty6 := List Int × Nat × List Int × List Ent
noncomputable def f16v1.c : Code := bodyOf Try.f16
def f16v1.s0t (_K : Nat) (rec : f16v1.Ty4 → Option (f16v1.Ty4)) (t1 : Nat) (t5 : Nat) (b0_0 : Nat) (b0_1 : List Int) (b2 : List Ent) (b5 : List Int) (b6_0 : Nat) (b6_1 : List Int) : Option (f16v1.Ty4) :=
  bif (decide (((t5 : Nat) : Int) < 64)) then
    bif (Nat.ble t5 b6_0 && (fitB ((t5 + 1) * 1))) then
      rec (t1, (t5 + 1), b0_0, b0_1, b2, b5, (t5 + 1), ((padT b6_1 t5) ++ [0]))
    else
      none
  else
    some (t1, t5, b0_0, b0_1, b2, b5, b6_0, b6_1)
def f16v1.s0 (K : Nat) (rec : f16v1.Ty4 → Option (f16v1.Ty4)) (x : f16v1.Ty4) : Option (f16v1.Ty4) := f16v1.s0t K rec x.1 x.2.1 x.2.2.1 x.2.2.2.1 x.2.2.2.2.1 x.2.2.2.2.2.1 x.2.2.2.2.2.2.1 x.2.2.2.2.2.2.2
noncomputable def f16v1.s0.b : Code := (findLoop 0 f16v1.c).getD .skip
def f16v1.s0.h : Hint := { lv := [1, 4, 5] }
def f16v1.s0.ho : Hint := { lv := [1, 4, 5] }
def f16v1.s0.shp (x : f16v1.Ty4) : VS := ⟨[(1, .vw true 2 0 x.1 3), (4, .ptr 5 0), (5, .vec 6 0 x.2.1 7)], [(0, ([.ints .u8 x.2.2.1 x.2.2.2.1], 0, .ro)), (2, ([], 0, .rr false 4 x.2.2.2.2.1)), (5, ([.ints .u8 32 x.2.2.2.2.2.1], 29, .norm)), (6, ([.ints .u8 x.2.2.2.2.2.2.1 x.2.2.2.2.2.2.2], 5, .vec 7))], 8⟩
def f16v1.s0.inX : VS → Option (f16v1.Ty4)
  | ⟨[(1, .vw true 2 0 t1 3), (4, .ptr 5 0), (5, .vec 6 0 t5 7)], [(0, ([.ints .u8 b0_0 b0_1], 0, .ro)), (2, ([], 0, .rr false 4 b2)), (5, ([.ints .u8 32 b5], 29, .norm)), (6, ([.ints .u8 b6_0 b6_1], 5, .vec 7))], 8⟩ => some (t1, t5, b0_0, b0_1, b2, b5, b6_0, b6_1)
  | _ => none
def f16v1.s0.o0 (y : f16v1.Ty4) : VS := ⟨[(1, .vw true 2 0 y.1 3), (4, .ptr 5 0), (5, .vec 6 0 y.2.1 7)], [(0, ([.ints .u8 y.2.2.1 y.2.2.2.1], 0, .ro)), (2, ([], 0, .rr false 4 y.2.2.2.2.1)), (5, ([.ints .u8 32 y.2.2.2.2.2.1], 29, .norm)), (6, ([.ints .u8 y.2.2.2.2.2.2.1 y.2.2.2.2.2.2.2], 5, .vec 7))], 8⟩
def f16v1.s0.des : ∀ α : Type, (f16v1.Ty4) → (Ex → VS → Option α) → Option α := (des1 (.exit 0) f16v1.s0.o0)
def f16v1.s0.out : f16v1.Ty4 → Ex × VS := (fun y => (.exit 0, f16v1.s0.o0 y))
theorem f16v1.s0.desOK : ∀ α y (k : Ex → VS → Option α), f16v1.s0.des α y k = k (f16v1.s0.out y).1 (f16v1.s0.out y).2 := (fun _ _ _ => rfl)
def f16v1.s0.inY : Ex → VS → Option (f16v1.Ty4)
  | .exit 0, ⟨[(1, .vw true 2 0 t1 3), (4, .ptr 5 0), (5, .vec 6 0 t5 7)], [(0, ([.ints .u8 b0_0 b0_1], 0, .ro)), (2, ([], 0, .rr false 4 b2)), (5, ([.ints .u8 32 b5], 29, .norm)), (6, ([.ints .u8 b6_0 b6_1], 5, .vec 7))], 8⟩ => some (t1, t5, b0_0, b0_1, b2, b5, b6_0, b6_1)
  | _, _ => none
def f16v1.s2t (_K : Nat) (rec : f16v1.Ty0 → Option (f16v1.Ty2)) (t1 : Nat) (t5 : Nat) (t7 : Nat) (t8 : Nat) (t9 : Int) (b0_0 : Nat) (b0_1 : List Int) (b2 : List Ent) (b5 : List Int) (b6_0 : Nat) (b6_1 : List Int) (b8_0 : Nat) (b8_1 : List Int) (b10_0 : Nat) (b10_1 : List Int) : Option (f16v1.Ty2) :=
  bif (decide (t9 < 64)) then
    bif (decide (0 ≤ t9 ∧ t9 < ((t5 : Nat) : Int)) && (Nat.blt (0 + (Int.toNat t9)) b6_0)) then
      let v11 := 0 + (Int.toNat t9)
      bif Nat.blt v11 b6_0 then
        bif (Nat.ble t7 b8_0 && (fitB ((t7 + 1) * 1))) then
          bif (decide (0 ≤ t9 ∧ t9 < ((t5 : Nat) : Int)) && (Nat.blt (0 + (Int.toNat t9)) b6_0)) then
            let v15 := 0 + (Int.toNat t9)
            bif Nat.blt v15 b6_0 then
              bif (Nat.ble t8 b10_0 && (fitB ((t8 + 1) * 1))) then
                rec (t1, t5, (t7 + 1), (t8 + 1), (IntKind.wrap .i64 (t9 + 1)), b0_0, b0_1, b2, b5, b6_0, b6_1, (t7 + 1), ((padT b8_1 t7) ++ [(bits .xor .u8 (List.getD b6_1 v11 0) 54)]), (t8 + 1), ((padT b10_1 t8) ++ [(bits .xor .u8 (List.getD b6_1 v15 0) 92)]))
              else
                none
            else
              none
          else
            none
        else
          none
      else
        none
    else
      none
  else
    some (t1, t7, t8, b0_0, b0_1, b2, b5, b8_0, b8_1, b10_0, b10_1)
def f16v1.s2 (K : Nat) (rec : f16v1.Ty0 → Option (f16v1.Ty2)) (x : f16v1.Ty0) : Option (f16v1.Ty2) := f16v1.s2t K rec x.1 x.2.1 x.2.2.1 x.2.2.2.1 x.2.2.2.2.1 x.2.2.2.2.2.1 x.2.2.2.2.2.2.1 x.2.2.2.2.2.2.2.1 x.2.2.2.2.2.2.2.2.1 x.2.2.2.2.2.2.2.2.2.1 x.2.2.2.2.2.2.2.2.2.2.1 x.2.2.2.2.2.2.2.2.2.2.2.1 x.2.2.2.2.2.2.2.2.2.2.2.2.1 x.2.2.2.2.2.2.2.2.2.2.2.2.2.1 x.2.2.2.2.2.2.2.2.2.2.2.2.2.2
noncomputable def f16v1.s2.b : Code := (findLoop 2 f16v1.c).getD .skip
def f16v1.s2.h : Hint := { lv := [1, 4, 5, 7, 8, 9], co := [(7, 5, [.ints .u8 0 []]), (8, 5, [.ints .u8 0 []])] }
def f16v1.s2.ho : Hint := { lv := [1, 4, 7, 8] }
def f16v1.s2.shp (x : f16v1.Ty0) : VS := ⟨[(1, .vw true 2 0 x.1 3), (4, .ptr 5 0), (5, .vec 6 0 x.2.1 7), (7, .vec 8 0 x.2.2.1 9), (8, .vec 10 0 x.2.2.2.1 11), (9, .int .i64 x.2.2.2.2.1)], [(0, ([.ints .u8 x.2.2.2.2.2.1 x.2.2.2.2.2.2.1], 0, .ro)), (2, ([], 0, .rr false 4 x.2.2.2.2.2.2.2.1)), (5, ([.ints .u8 32 x.2.2.2.2.2.2.2.2.1], 29, .norm)), (6, ([.ints .u8 x.2.2.2.2.2.2.2.2.2.1 x.2.2.2.2.2.2.2.2.2.2.1], 5, .vec 7)), (8, ([.ints .u8 x.2.2.2.2.2.2.2.2.2.2.2.1 x.2.2.2.2.2.2.2.2.2.2.2.2.1], 5, .vec 9)), (10, ([.ints .u8 x.2.2.2.2.2.2.2.2.2.2.2.2.2.1 x.2.2.2.2.2.2.2.2.2.2.2.2.2.2], 5, .vec 11))], 12⟩
def f16v1.s2.inX : VS → Option (f16v1.Ty0)
  | ⟨[(1, .vw true 2 0 t1 3), (4, .ptr 5 0), (5, .vec 6 0 t5 7), (7, .vec 8 0 t7 9), (8, .vec 10 0 t8 11), (9, .int .i64 t9)], [(0, ([.ints .u8 b0_0 b0_1], 0, .ro)), (2, ([], 0, .rr false 4 b2)), (5, ([.ints .u8 32 b5], 29, .norm)), (6, ([.ints .u8 b6_0 b6_1], 5, .vec 7)), (8, ([.ints .u8 b8_0 b8_1], 5, .vec 9)), (10, ([.ints .u8 b10_0 b10_1], 5, .vec 11))], 12⟩ => some (t1, t5, t7, t8, t9, b0_0, b0_1, b2, b5, b6_0, b6_1, b8_0, b8_1, b10_0, b10_1)
  | _ => none
def f16v1.s2.o0 (y : f16v1.Ty2) : VS := ⟨[(1, .vw true 2 0 y.1 3), (4, .ptr 5 0), (7, .vec 6 0 y.2.1 7), (8, .vec 8 0 y.2.2.1 9)], [(0, ([.ints .u8 y.2.2.2.1 y.2.2.2.2.1], 0, .ro)), (2, ([], 0, .rr false 4 y.2.2.2.2.2.1)), (5, ([.ints .u8 32 y.2.2.2.2.2.2.1], 29, .norm)), (6, ([.ints .u8 y.2.2.2.2.2.2.2.1 y.2.2.2.2.2.2.2.2.1], 5, .vec 7)), (8, ([.ints .u8 y.2.2.2.2.2.2.2.2.2.1 y.2.2.2.2.2.2.2.2.2.2], 5, .vec 9))], 10⟩
def f16v1.s2.des : ∀ α : Type, (f16v1.Ty2) → (Ex → VS → Option α) → Option α := (des1 (.exit 2) f16v1.s2.o0)
def f16v1.s2.out : f16v1.Ty2 → Ex × VS := (fun y => (.exit 2, f16v1.s2.o0 y))
theorem f16v1.s2.desOK : ∀ α y (k : Ex → VS → Option α), f16v1.s2.des α y k = k (f16v1.s2.out y).1 (f16v1.s2.out y).2 := (fun _ _ _ => rfl)
def f16v1.s2.inY : Ex → VS → Option (f16v1.Ty2)
  | .exit 2, ⟨[(1, .vw true 2 0 t1 3), (4, .ptr 5 0), (7, .vec 6 0 t7 7), (8, .vec 8 0 t8 9)], [(0, ([.ints .u8 b0_0 b0_1], 0, .ro)), (2, ([], 0, .rr false 4 b2)), (5, ([.ints .u8 32 b5], 29, .norm)), (6, ([.ints .u8 b6_0 b6_1], 5, .vec 7)), (8, ([.ints .u8 b8_0 b8_1], 5, .vec 9))], 10⟩ => some (t1, t7, t8, b0_0, b0_1, b2, b5, b6_0, b6_1, b8_0, b8_1)
  | _, _ => none
def f16v1.s4t (_K : Nat) (rec : f16v1.Ty1 → Option (f16v1.Ty3)) (t1 : Nat) (t7 : Nat) (t8 : Nat) (t10 : Int) (b0_0 : Nat) (b0_1 : List Int) (b2 : List Ent) (b5 : List Int) (b6_0 : Nat) (b6_1 : List Int) (b8_0 : Nat) (b8_1 : List Int) : Option (f16v1.Ty3) :=
  bif (decide (t10 < ((t1 : Nat) : Int))) then
    bif decide (0 ≤ t10 ∧ t10 < ((t1 : Nat) : Int)) then
      let v23 := 0 + (Int.toNat t10)
      bif Nat.blt v23 (List.length b2) then
        let v24 := (entAt b2 v23).1
        bif ((Nat.ble (0 + v24) ((entAt b2 v23).1) && (Nat.ble t7 b6_0)) && (fitB ((t7 + v24) * 1))) then
          rec (t1, (t7 + v24), t8, (IntKind.wrap .i64 (t10 + 1)), b0_0, b0_1, b2, b5, (t7 + v24), ((padT b6_1 t7) ++ (padT (subI ((entAt b2 v23).2.2) 0 v24) v24)), b8_0, b8_1)
        else
          none
      else
        none
    else
      none
  else
    some (t7, t8, b0_0, b0_1, b2, b5, b6_0, b6_1, b8_0, b8_1)
def f16v1.s4 (K : Nat) (rec : f16v1.Ty1 → Option (f16v1.Ty3)) (x : f16v1.Ty1) : Option (f16v1.Ty3) := f16v1.s4t K rec x.1 x.2.1 x.2.2.1 x.2.2.2.1 x.2.2.2.2.1 x.2.2.2.2.2.1 x.2.2.2.2.2.2.1 x.2.2.2.2.2.2.2.1 x.2.2.2.2.2.2.2.2.1 x.2.2.2.2.2.2.2.2.2.1 x.2.2.2.2.2.2.2.2.2.2.1 x.2.2.2.2.2.2.2.2.2.2.2
noncomputable def f16v1.s4.b : Code := (findLoop 4 f16v1.c).getD .skip
def f16v1.s4.h : Hint := { lv := [1, 4, 7, 8, 10] }
def f16v1.s4.ho : Hint := { lv := [4, 7, 8] }
def f16v1.s4.shp (x : f16v1.Ty1) : VS := ⟨[(1, .vw true 2 0 x.1 3), (4, .ptr 5 0), (7, .vec 6 0 x.2.1 7), (8, .vec 8 0 x.2.2.1 9), (10, .int .i64 x.2.2.2.1)], [(0, ([.ints .u8 x.2.2.2.2.1 x.2.2.2.2.2.1], 0, .ro)), (2, ([], 0, .rr false 4 x.2.2.2.2.2.2.1)), (5, ([.ints .u8 32 x.2.2.2.2.2.2.2.1], 29, .norm)), (6, ([.ints .u8 x.2.2.2.2.2.2.2.2.1 x.2.2.2.2.2.2.2.2.2.1], 5, .vec 7)), (8, ([.ints .u8 x.2.2.2.2.2.2.2.2.2.2.1 x.2.2.2.2.2.2.2.2.2.2.2], 5, .vec 9))], 10⟩
def f16v1.s4.inX : VS → Option (f16v1.Ty1)
  | ⟨[(1, .vw true 2 0 t1 3), (4, .ptr 5 0), (7, .vec 6 0 t7 7), (8, .vec 8 0 t8 9), (10, .int .i64 t10)], [(0, ([.ints .u8 b0_0 b0_1], 0, .ro)), (2, ([], 0, .rr false 4 b2)), (5, ([.ints .u8 32 b5], 29, .norm)), (6, ([.ints .u8 b6_0 b6_1], 5, .vec 7)), (8, ([.ints .u8 b8_0 b8_1], 5, .vec 9))], 10⟩ => some (t1, t7, t8, t10, b0_0, b0_1, b2, b5, b6_0, b6_1, b8_0, b8_1)
  | _ => none
def f16v1.s4.o0 (y : f16v1.Ty3) : VS := ⟨[(4, .ptr 5 0), (7, .vec 6 0 y.1 7), (8, .vec 8 0 y.2.1 9)], [(0, ([.ints .u8 y.2.2.1 y.2.2.2.1], 0, .ro)), (2, ([], 0, .rr false 4 y.2.2.2.2.1)), (5, ([.ints .u8 32 y.2.2.2.2.2.1], 29, .norm)), (6, ([.ints .u8 y.2.2.2.2.2.2.1 y.2.2.2.2.2.2.2.1], 5, .vec 7)), (8, ([.ints .u8 y.2.2.2.2.2.2.2.2.1 y.2.2.2.2.2.2.2.2.2], 5, .vec 9))], 10⟩
def f16v1.s4.des : ∀ α : Type, (f16v1.Ty3) → (Ex → VS → Option α) → Option α := (des1 (.exit 4) f16v1.s4.o0)
def f16v1.s4.out : f16v1.Ty3 → Ex × VS := (fun y => (.exit 4, f16v1.s4.o0 y))
theorem f16v1.s4.desOK : ∀ α y (k : Ex → VS → Option α), f16v1.s4.des α y k = k (f16v1.s4.out y).1 (f16v1.s4.out y).2 := (fun _ _ _ => rfl)
def f16v1.s4.inY : Ex → VS → Option (f16v1.Ty3)
  | .exit 4, ⟨[(4, .ptr 5 0), (7, .vec 6 0 t7 7), (8, .vec 8 0 t8 9)], [(0, ([.ints .u8 b0_0 b0_1], 0, .ro)), (2, ([], 0, .rr false 4 b2)), (5, ([.ints .u8 32 b5], 29, .norm)), (6, ([.ints .u8 b6_0 b6_1], 5, .vec 7)), (8, ([.ints .u8 b8_0 b8_1], 5, .vec 9))], 10⟩ => some (t7, t8, b0_0, b0_1, b2, b5, b6_0, b6_1, b8_0, b8_1)
  | _, _ => none
def f16v1.lp (K : Nat) : Nat → Option (Hint × Summ) := tabLp [(0, f16v1.s0.h, summOf (iter (f16v1.s0 K) K) f16v1.s0.inX f16v1.s0.des), (2, f16v1.s2.h, summOf (iter (f16v1.s2 K) K) f16v1.s2.inX f16v1.s2.des), (4, f16v1.s4.h, summOf (iter (f16v1.s4 K) K) f16v1.s4.inX f16v1.s4.des)]
noncomputable def f16v1.tab (K : Nat) : List (Nat × Entry) := [(52, (viewE [(0, .u8)] (f52.E K)))]
theorem f16v1.tabOK (K : Nat) : SpecOK Try.prog (tabSp (f16v1.tab K)) := tab_ok ((tab_cons (view_ok (f52.ok K)) tab_nil))
theorem f16v1.s0.eq (K : Nat) (rec : f16v1.Ty4 → Option (f16v1.Ty4)) (x : f16v1.Ty4) : f16v1.s0 K rec x = roundL (getA tys) (tabSp (f16v1.tab K)) 65 5 (f16v1.lp K) 400 f16v1.s0.b f16v1.s0.h f16v1.s0.ho f16v1.s0.shp f16v1.s0.inX f16v1.s0.inY rec x := by kernel_rfl
theorem f16v1.s0.lok (K : Nat) : LoopsOK Try.prog 65 5 (f16v1.lp K) f16v1.s0.b := loops_ok (by
  have h : loopsIn (f16v1.lp K) f16v1.s0.b = [] := by kernel_rfl
  rw [h]; simp)
theorem f16v1.s0.ok (K : Nat) : SummOK Try.prog 65 5 (summOf (iter (f16v1.s0 K) K) f16v1.s0.inX f16v1.s0.des) f16v1.s0.b :=
  loop_ok mix tys_ok (f16v1.tabOK K) (h := f16v1.s0.h) (ho := f16v1.s0.ho) (shp := f16v1.s0.shp) (inX := f16v1.s0.inX) (des := f16v1.s0.des) (out := f16v1.s0.out) (inY := f16v1.s0.inY) (fuel := 400)
    (by intro st x h; unfold f16v1.s0.inX at h; split at h <;> simp at h; subst h; rfl)
    (by intro e st y h; unfold f16v1.s0.inY at h; split at h <;> simp at h <;> subst h <;> rfl)
    f16v1.s0.desOK (f16v1.s0.lok K) (f16v1.s0 K) (f16v1.s0.eq K) K
theorem f16v1.s2.eq (K : Nat) (rec : f16v1.Ty0 → Option (f16v1.Ty2)) (x : f16v1.Ty0) : f16v1.s2 K rec x = roundL (getA tys) (tabSp (f16v1.tab K)) 65 5 (f16v1.lp K) 400 f16v1.s2.b f16v1.s2.h f16v1.s2.ho f16v1.s2.shp f16v1.s2.inX f16v1.s2.inY rec x := by kernel_rfl
theorem f16v1.s2.lok (K : Nat) : LoopsOK Try.prog 65 5 (f16v1.lp K) f16v1.s2.b := loops_ok (by
  have h : loopsIn (f16v1.lp K) f16v1.s2.b = [] := by kernel_rfl
  rw [h]; simp)
theorem f16v1.s2.ok (K : Nat) : SummOK Try.prog 65 5 (summOf (iter (f16v1.s2 K) K) f16v1.s2.inX f16v1.s2.des) f16v1.s2.b :=
  loop_ok mix tys_ok (f16v1.tabOK K) (h := f16v1.s2.h) (ho := f16v1.s2.ho) (shp := f16v1.s2.shp) (inX := f16v1.s2.inX) (des := f16v1.s2.des) (out := f16v1.s2.out) (inY := f16v1.s2.inY) (fuel := 400)
    (by intro st x h; unfold f16v1.s2.inX at h; split at h <;> simp at h; subst h; rfl)
    (by intro e st y h; unfold f16v1.s2.inY at h; split at h <;> simp at h <;> subst h <;> rfl)
    f16v1.s2.desOK (f16v1.s2.lok K) (f16v1.s2 K) (f16v1.s2.eq K) K
theorem f16v1.s4.eq (K : Nat) (rec : f16v1.Ty1 → Option (f16v1.Ty3)) (x : f16v1.Ty1) : f16v1.s4 K rec x = roundL (getA tys) (tabSp (f16v1.tab K)) 65 5 (f16v1.lp K) 400 f16v1.s4.b f16v1.s4.h f16v1.s4.ho f16v1.s4.shp f16v1.s4.inX f16v1.s4.inY rec x := by kernel_rfl
theorem f16v1.s4.lok (K : Nat) : LoopsOK Try.prog 65 5 (f16v1.lp K) f16v1.s4.b := loops_ok (by
  have h : loopsIn (f16v1.lp K) f16v1.s4.b = [] := by kernel_rfl
  rw [h]; simp)
theorem f16v1.s4.ok (K : Nat) : SummOK Try.prog 65 5 (summOf (iter (f16v1.s4 K) K) f16v1.s4.inX f16v1.s4.des) f16v1.s4.b :=
  loop_ok mix tys_ok (f16v1.tabOK K) (h := f16v1.s4.h) (ho := f16v1.s4.ho) (shp := f16v1.s4.shp) (inX := f16v1.s4.inX) (des := f16v1.s4.des) (out := f16v1.s4.out) (inY := f16v1.s4.inY) (fuel := 400)
    (by intro st x h; unfold f16v1.s4.inX at h; split at h <;> simp at h; subst h; rfl)
    (by intro e st y h; unfold f16v1.s4.inY at h; split at h <;> simp at h <;> subst h <;> rfl)
    f16v1.s4.desOK (f16v1.s4.lok K) (f16v1.s4 K) (f16v1.s4.eq K) K
theorem f16v1.loops (K : Nat) : LoopsOK Try.prog 65 5 (f16v1.lp K) f16v1.c := loops_ok (by
  have h : loopsIn (f16v1.lp K) f16v1.c = [(0, f16v1.s0.b), (2, f16v1.s2.b), (4, f16v1.s4.b)] := by kernel_rfl
  rw [h]
  intro p hp
  simp only [List.mem_cons, List.not_mem_nil, or_false] at hp
  rcases hp with rfl | rfl | rfl
  · exact ⟨_, rfl, (f16v1.s0.ok K)⟩
  · exact ⟨_, rfl, (f16v1.s2.ok K)⟩
  · exact ⟨_, rfl, (f16v1.s4.ok K)⟩)
def f16v1.T (K : Nat) (a0 : Nat) (a1 : Nat) (m0_0 : Nat) (m0_1 : List Int) (m2 : List Ent) : Option (f16v1.Ty6) :=
  bif (Nat.ble (0 + a0) m0_0 && (fitB (a0 * 1))) then
    let v1 := subI m0_1 0 a0
    bif (decide (((a0 : Nat) : Int) > 64)) then
      bif ((Nat.ble (0 + a0) a0 && true) && true) then
        (f52.F K (a0, a0, (subI v1 0 a0))).bind fun y4 =>
        (iter (f16v1.s0 K) K (a1, 32, m0_0, m0_1, m2, [0, 0, 0, 0, 0, 0, 0, 0, 0, 0, 0, 0, 0, 0, 0, 0, 0, 0, 0, 0, 0, 0, 0, 0, 0, 0, 0, 0, 0, 0, 0, 0], 32, (subI y4.1 0 32))).bind fun y9 =>
        (iter (f16v1.s2 K) K (y9.1, y9.2.1, 0, 0, 0, y9.2.2.1, y9.2.2.2.1, y9.2.2.2.2.1, y9.2.2.2.2.2.1, y9.2.2.2.2.2.2.1, y9.2.2.2.2.2.2.2, 0, [], 0, [])).bind fun y20 =>
        (iter (f16v1.s4 K) K (y20.1, y20.2.1, y20.2.2.1, 0, y20.2.2.2.1, y20.2.2.2.2.1, y20.2.2.2.2.2.1, y20.2.2.2.2.2.2.1, y20.2.2.2.2.2.2.2.1, y20.2.2.2.2.2.2.2.2.1, y20.2.2.2.2.2.2.2.2.2.1, y20.2.2.2.2.2.2.2.2.2.2)).bind fun y29 =>
        bif ((Nat.ble (0 + y29.1) y29.2.2.2.2.2.2.1 && true) && true) then
          (f52.F K (y29.1, y29.1, (subI y29.2.2.2.2.2.2.2.1 0 y29.1))).bind fun y30 =>
          bif (Nat.ble y29.2.1 y29.2.2.2.2.2.2.2.2.1 && (fitB ((y29.2.1 + 32) * 1))) then
            let v31 := y29.2.1 + 32
            bif ((Nat.ble (0 + v31) (y29.2.1 + 32) && true) && true) then
              (f52.F K (v31, v31, (subI ((padT y29.2.2.2.2.2.2.2.2.2 y29.2.1) ++ (padT (subI y30.1 0 32) 32)) 0 v31))).bind fun y34 =>
              some (y34.1, y29.2.2.1, y29.2.2.2.1, y29.2.2.2.2.1)
            else
              none
          else
            none
        else
          none
      else
        none
    else
      (iter (f16v1.s0 K) K (a1, a0, m0_0, m0_1, m2, [0, 0, 0, 0, 0, 0, 0, 0, 0, 0, 0, 0, 0, 0, 0, 0, 0, 0, 0, 0, 0, 0, 0, 0, 0, 0, 0, 0, 0, 0, 0, 0], a0, v1)).bind fun y35 =>
      (iter (f16v1.s2 K) K (y35.1, y35.2.1, 0, 0, 0, y35.2.2.1, y35.2.2.2.1, y35.2.2.2.2.1, y35.2.2.2.2.2.1, y35.2.2.2.2.2.2.1, y35.2.2.2.2.2.2.2, 0, [], 0, [])).bind fun y36 =>
      (iter (f16v1.s4 K) K (y36.1, y36.2.1, y36.2.2.1, 0, y36.2.2.2.1, y36.2.2.2.2.1, y36.2.2.2.2.2.1, y36.2.2.2.2.2.2.1, y36.2.2.2.2.2.2.2.1, y36.2.2.2.2.2.2.2.2.1, y36.2.2.2.2.2.2.2.2.2.1, y36.2.2.2.2.2.2.2.2.2.2)).bind fun y37 =>
      bif ((Nat.ble (0 + y37.1) y37.2.2.2.2.2.2.1 && true) && true) then
        (f52.F K (y37.1, y37.1, (subI y37.2.2.2.2.2.2.2.1 0 y37.1))).bind fun y38 =>
        bif (Nat.ble y37.2.1 y37.2.2.2.2.2.2.2.2.1 && (fitB ((y37.2.1 + 32) * 1))) then
          let v39 := y37.2.1 + 32
          bif ((Nat.ble (0 + v39) (y37.2.1 + 32) && true) && true) then
            (f52.F K (v39, v39, (subI ((padT y37.2.2.2.2.2.2.2.2.2 y37.2.1) ++ (padT (subI y38.1 0 32) 32)) 0 v39))).bind fun y42 =>
            some (y42.1, y37.2.2.1, y37.2.2.2.1, y37.2.2.2.2.1)
          else
            none
        else
          none
      else
        none
  else
    none
def f16v1.F (K : Nat) (x : f16v1.Ty5) : Option (f16v1.Ty6) := f16v1.T K x.1 x.2.1 x.2.2.1 x.2.2.2.1 x.2.2.2.2
def f16v1.av (x : f16v1.Ty5) : List VV := [.vw true 0 0 x.1 1, .vw true 2 0 x.2.1 3]
def f16v1.bl (x : f16v1.Ty5) : List (Nat × Blk) := [(0, ([.ints .u8 x.2.2.1 x.2.2.2.1], 0, .ro)), (2, ([], 0, .rr false 4 x.2.2.2.2))]
def f16v1.inA : VS → Option (f16v1.Ty5)
  | ⟨[(0, .vw true 0 0 a0 1), (1, .vw true 2 0 a1 3)], [(0, ([.ints .u8 m0_0 m0_1], 0, .ro)), (2, ([], 0, .rr false 4 m2))], 5⟩ => some (a0, a1, m0_0, m0_1, m2)
  | _ => none
def f16v1.o0 (y : f16v1.Ty6) : VS := ⟨[(0, .agg [.ints .u8 32 y.1])], [(0, ([.ints .u8 y.2.1 y.2.2.1], 0, .ro)), (2, ([], 0, .rr false 4 y.2.2.2))], 5⟩
def f16v1.des : ∀ α : Type, (f16v1.Ty6) → (VS → Option α) → Option α := (dv1 f16v1.o0)
def f16v1.out : f16v1.Ty6 → VS := f16v1.o0
def f16v1.inR : VS → Option (f16v1.Ty6)
  | ⟨[(0, .agg [.ints .u8 32 y])], [(0, ([.ints .u8 z0_0 z0_1], 0, .ro)), (2, ([], 0, .rr false 4 z2))], 5⟩ => some (y, z0_0, z0_1, z2)
  | _ => none
noncomputable def f16v1.E (K : Nat) : Entry := genE 5 f16v1.inA (f16v1.F K) f16v1.des
theorem f16v1.eq (K : Nat) (x : f16v1.Ty5) : f16v1.F K x = xrun (getA tys) (tabSp (f16v1.tab K)) Try.f16.ntmps 5 (f16v1.lp K) 400 f16v1.c ⟨initL 0 (f16v1.av x), f16v1.bl x, 5⟩ (contF (getA tys) 5 Try.f16.results.toList f16v1.inR) := by kernel_rfl
theorem f16v1.ok (K : Nat) : EntryOK Try.prog 16 (f16v1.E K) :=
  gen_ok mix tys_ok (f16v1.tabOK K) Try.func16 (by kernel_rfl : Try.f16.body = some f16v1.c) (by kernel_rfl) (f16v1.loops K) (av := f16v1.av) (bl := f16v1.bl) (out := f16v1.out) (fuel := 400)
    (by intro s x h; unfold f16v1.inA at h; split at h <;> simp at h; subst h; rfl) (fun _ => Nat.le_of_ble_eq_true rfl)
    (by intro s y h; unfold f16v1.inR at h; split at h <;> simp at h <;> subst h <;> rfl) (fun _ _ _ => rfl) (f16v1.eq K)
end Go.Proofs

namespace Go.Proofs
open Go.VM
abbrev f20.Ty0 := Nat × Nat × Nat × List Int × Nat × List Int
abbrev f20.Ty1 := Bool × Nat × List Int × Nat × List Int
def f20.T (_K : Nat) (a0 : Nat) (a1 : Nat) (m0_0 : Nat) (m0_1 : List Int) (m2_0 : Nat) (m2_1 : List Int) : Option (f20.Ty1) :=
  bif Nat.ble (0 + a0) m0_0 then
    bif Nat.ble (0 + a1) m2_0 then
      some ((strEq (mkStr (padT (subI m0_1 0 a0) a0)) (mkStr (padT (subI m2_1 0 a1) a1))), m0_0, m0_1, m2_0, m2_1)
    else
      none
  else
    none
def f20.F (K : Nat) (x : f20.Ty0) : Option (f20.Ty1) := f20.T K x.1 x.2.1 x.2.2.1 x.2.2.2.1 x.2.2.2.2.1 x.2.2.2.2.2
def f20.av (x : f20.Ty0) : List VV := [.vw true 0 0 x.1 1, .vw true 2 0 x.2.1 3]
def f20.bl (x : f20.Ty0) : List (Nat × Blk) := [(0, ([.ints .u8 x.2.2.1 x.2.2.2.1], 0, .ro)), (2, ([.ints .u8 x.2.2.2.2.1 x.2.2.2.2.2], 0, .ro))]
def f20.inA : VS → Option (f20.Ty0)
  | ⟨[(0, .vw true 0 0 a0 1), (1, .vw true 2 0 a1 3)], [(0, ([.ints .u8 m0_0 m0_1], 0, .ro)), (2, ([.ints .u8 m2_0 m2_1], 0, .ro))], 4⟩ => some (a0, a1, m0_0, m0_1, m2_0, m2_1)
  | _ => none
def f20.o0 (y : f20.Ty1) : VS := ⟨[(0, .bool y.1)], [(0, ([.ints .u8 y.2.1 y.2.2.1], 0, .ro)), (2, ([.ints .u8 y.2.2.2.1 y.2.2.2.2], 0, .ro))], 4⟩
def f20.inR : VS → Option (f20.Ty1)
  | ⟨[(0, .bool y)], [(0, ([.ints .u8 z0_0 z0_1], 0, .ro)), (2, ([.ints .u8 z2_0 z2_1], 0, .ro))], 4⟩ => some (y, z0_0, z0_1, z2_0, z2_1)
  | _ => none
noncomputable def f20.E (K : Nat) : Entry := genE 4 f20.inA (f20.F K) (dv1 f20.o0)
theorem f20.ok (K : Nat) : EntryOK Try.prog 20 (f20.E K) := gen_ok mix tys_ok (tab_ok ( tab_nil)) Try.func20 (c := bodyOf Try.f20) (by kernel_rfl) (by kernel_rfl) (loops_none (lp := lpNone) (by kernel_rfl)) (av := f20.av) (bl := f20.bl) (inR := f20.inR) (out := f20.o0) (fuel := 400)
  (by intro s x h; unfold f20.inA at h; split at h <;> simp at h; subst h; rfl) (fun _ => Nat.le_of_ble_eq_true rfl)
  (by intro s y h; unfold f20.inR at h; split at h <;> simp at h <;> subst h <;> rfl) (fun _ _ _ => rfl) (fun _ => by kernel_rfl)
end Go.Proofs

namespace Go.Proofs
open Go.VM
theorem Rs.mac_run (K N n : Nat) (k : List Int) (ll : List Ent) (hN : ll.length = N) {b : Nat} (ho : Rs.ok b ll) (hb : b ≤ 1000000000) (hNb : N ≤ 1000000) (hK : 400 + N + b < K) (kb : List Int) (hk : kb.length = 64) :
    ((f48.F K (54, kb)).bind fun y7 =>
      (f50.F K (64, [0, 0, 0, 0, 0, 0, 0, 0, 0, 0, 0, 0, 0, 0, 0, 0, 0, 0, 0, 0, 0, 0, 0, 0, 0, 0, 0, 0, 0, 0, 0, 0, 0, 0, 0, 0, 0, 0, 0, 0, 0, 0, 0, 0, 0, 0, 0, 0, 0, 0, 0, 0, 0, 0, 0, 0, 0, 0, 0, 0, 0, 0, 0, 0], 0, 0, 64, (subI y7.2 0 64), Sh.init)).bind fun y8 =>
      (iter (f15v1.s0 K) K (N, ((N : Nat) : Int), 0, n, k, ll, [0, 0, 0, 0, 0, 0, 0, 0, 0, 0, 0, 0, 0, 0, 0, 0, 0, 0, 0, 0, 0, 0, 0, 0, 0, 0, 0, 0, 0, 0, 0, 0], y7.1, y8.2.1, y8.2.2.1, y8.2.2.2.1, [0, 0, 0, 0, 0, 0, 0, 0, 0, 0, 0, 0, 0, 0, 0, 0, 0, 0, 0, 0, 0, 0, 0, 0, 0, 0, 0, 0, 0, 0, 0, 0, 0, 0, 0, 0, 0, 0, 0, 0, 0, 0, 0, 0, 0, 0, 0, 0, 0, 0, 0, 0, 0, 0, 0, 0, 0, 0, 0, 0, 0, 0, 0, 0], 0, 0, y8.2.2.2.2.2.2, Sh.init)).bind fun y17 =>
      (f51.F K (y17.2.2.2.2.2.1, y17.2.2.2.2.2.2.1, y17.2.2.2.2.2.2.2.1, y17.2.2.2.2.2.2.2.2.2.2.2.1)).bind fun y18 =>
      (f48.F K (92, y17.2.2.2.2.1)).bind fun y19 =>
      (f50.F K (64, y17.2.2.2.2.2.2.2.2.1, y17.2.2.2.2.2.2.2.2.2.1, y17.2.2.2.2.2.2.2.2.2.2.1, 64, (subI y19.2 0 64), y17.2.2.2.2.2.2.2.2.2.2.2.2)).bind fun y20 =>
      (f50.F K (32, y20.2.1, y20.2.2.1, y20.2.2.2.1, 32, (subI y18.1 0 32), y20.2.2.2.2.2.2)).bind fun y21 =>
      (f51.F K (y21.2.1, y21.2.2.1, y21.2.2.2.1, y21.2.2.2.2.2.2)).bind fun y22 =>
      some (y22.1, y17.1, y17.2.1, y17.2.2.1)) = some (Sh.sum (Sh.xr 92 kb ++ Sh.sum (Sh.xr 54 kb ++ Rs.cat ll)), n, k, ll) := by
  rw [f48.spec K 54 kb hk (by omega), bind_s]
  simp only []
  rw [subI_self _ (show (Sh.xr 54 kb).length = 64 by rw [xr_length, hk])]
  obtain ⟨b1, h1, s1, e1, R1⟩ := f50.spec K [] 64 (Sh.xr 54 kb) (by rw [xr_length, hk]) (xr_octets _ _) (by omega) _ _ _ Sh.rep0 (by omega)
  rw [show f50.F K (64, [0, 0, 0, 0, 0, 0, 0, 0, 0, 0, 0, 0, 0, 0, 0, 0, 0, 0, 0, 0, 0, 0, 0, 0, 0, 0, 0, 0, 0, 0, 0, 0, 0, 0, 0, 0, 0, 0, 0, 0, 0, 0, 0, 0, 0, 0, 0, 0, 0, 0, 0, 0, 0, 0, 0, 0, 0, 0, 0, 0, 0, 0, 0, 0], 0, 0, 64, Sh.xr 54 kb, Sh.init) = _ from e1, bind_s]
  simp only []
  rw [List.nil_append] at R1 ⊢
  obtain ⟨b2, h2, s2, e2, R2⟩ := f15v1.parts K N n k ll hN ho hb hNb (by omega) (by omega) [0, 0, 0, 0, 0, 0, 0, 0, 0, 0, 0, 0, 0, 0, 0, 0, 0, 0, 0, 0, 0, 0, 0, 0, 0, 0, 0, 0, 0, 0, 0, 0] kb _ _ _ _ R1 [0, 0, 0, 0, 0, 0, 0, 0, 0, 0, 0, 0, 0, 0, 0, 0, 0, 0, 0, 0, 0, 0, 0, 0, 0, 0, 0, 0, 0, 0, 0, 0, 0, 0, 0, 0, 0, 0, 0, 0, 0, 0, 0, 0, 0, 0, 0, 0, 0, 0, 0, 0, 0, 0, 0, 0, 0, 0, 0, 0, 0, 0, 0, 0] 0 0 Sh.init
  rw [e2, bind_s]
  simp only []
  rw [f51.spec K _ _ _ _ R2 (by omega), bind_s]
  simp only []
  rw [f48.spec K 92 kb hk (by omega), bind_s]
  simp only []
  rw [subI_self _ (show (Sh.xr 92 kb).length = 64 by rw [xr_length, hk])]
  obtain ⟨b3, h3, s3, e3, R3⟩ := f50.spec K [] 64 (Sh.xr 92 kb) (by rw [xr_length, hk]) (xr_octets _ _) (by omega) _ _ _ Sh.rep0 (by omega)
  rw [show f50.F K (64, [0, 0, 0, 0, 0, 0, 0, 0, 0, 0, 0, 0, 0, 0, 0, 0, 0, 0, 0, 0, 0, 0, 0, 0, 0, 0, 0, 0, 0, 0, 0, 0, 0, 0, 0, 0, 0, 0, 0, 0, 0, 0, 0, 0, 0, 0, 0, 0, 0, 0, 0, 0, 0, 0, 0, 0, 0, 0, 0, 0, 0, 0, 0, 0], 0, 0, 64, Sh.xr 92 kb, Sh.init) = _ from e3, bind_s]
  simp only []
  rw [subI_self _ (sum_length _)]
  obtain ⟨b4, h4, s4, e4, R4⟩ := f50.spec K _ 32 _ (sum_length (Sh.xr 54 kb ++ Rs.cat ll)) (sum_octets _) (by omega) _ _ _ R3 (by omega)
  rw [e4, bind_s]
  simp only []
  rw [f51.spec K _ _ _ _ R4 (by omega), bind_s]
  simp only [List.nil_append]
theorem f15v1.spec (K N n : Nat) (k : List Int) (ll : List Ent) (hkn : k.length = n) (hko : octets k) (hn : n ≤ 1000000000) (hN : ll.length = N) {b : Nat} (ho : Rs.ok b ll) (hb : b ≤ 1000000000) (hNb : N ≤ 1000000) (hK : 400 + n + N + b < K) :
    f15v1.F K (n, N, n, k, ll) = some (Sh.mac k (Rs.cat ll), n, k, ll) := by
  have h49 : f49.F K () = some ([0, 0, 0, 0, 0, 0, 0, 0, 0, 0, 0, 0, 0, 0, 0, 0, 0, 0, 0, 0, 0, 0, 0, 0, 0, 0, 0, 0, 0, 0, 0, 0, 0, 0, 0, 0, 0, 0, 0, 0, 0, 0, 0, 0, 0, 0, 0, 0, 0, 0, 0, 0, 0, 0, 0, 0, 0, 0, 0, 0, 0, 0, 0, 0], 0, 0, Sh.init) := rfl
  simp only [f15v1.F, f15v1.T]
  by_cases h : 64 < n
  · rw [decide_eq_true (show ((n : Nat) : Int) > 64 by omega), cond_t, Nat.zero_add, ble_true (Nat.le_refl n), Bool.and_self, Bool.and_self, cond_t, subI_self _ hkn, f30.spec K n k hkn hko (by omega) (by omega), bind_s, h49, bind_s, bind_s]
    simp only []
    rw [subI_self _ (sum_length k), spl_key _ 32 (sum_length k) (by omega)]
    have := Rs.mac_run K N n k ll hN ho hb hNb (by omega) (padT (Sh.sum k) 64) (padT_length _ _)
    refine this.trans ?_
    rw [Sh.mac, Sh.key, if_pos (by omega)]
  · rw [decide_eq_false (show ¬ ((n : Nat) : Int) > 64 by omega), cond_f, Nat.zero_add, ble_true (Nat.le_refl n), show Nat.beq n n = true from Nat.beq_refl n, Bool.and_self, Bool.and_self, cond_t, subI_self _ hkn, h49, bind_s, bind_s]
    simp only []
    rw [show Nat.min n 64 = n from Nat.min_eq_left (by omega), spl_key _ n hkn (by omega)]
    have := Rs.mac_run K N n k ll hN ho hb hNb (by omega) (padT k 64) (padT_length _ _)
    refine this.trans ?_
    rw [Sh.mac, Sh.key, if_neg (by omega)]
theorem mk_toList (l : List Int) : (mkStr l).toList = l.map fun x => UInt8.ofNat x.toNat := by
  rw [ByteArray.toList_eq]; simp [mkStr]
theorem strEq_mk (l m : List Int) (lo : octets l) (mo : octets m) : strEq (mkStr l) (mkStr m) = decide (l = m) := by
  unfold strEq
  rw [mk_toList, mk_toList, Bool.eq_iff_iff, beq_iff_eq, decide_eq_true_iff]
  constructor
  · intro h
    have hl : l.length = m.length := by simpa using congrArg List.length h
    apply List.ext_getElem hl
    intro i h1 h2
    have := congrArg (fun z => z[i]?) h
    simp only [List.getElem?_map, List.getElem?_eq_getElem h1, List.getElem?_eq_getElem h2, Option.map_some, Option.some.injEq] at this
    have := congrArg UInt8.toNat this
    have b1 := lo l[i] (List.getElem_mem _)
    have b2 := mo m[i] (List.getElem_mem _)
    rw [UInt8.toNat_ofNat', UInt8.toNat_ofNat', Nat.mod_eq_of_lt (by omega), Nat.mod_eq_of_lt (by omega)] at this
    omega
  · rintro rfl; rfl
theorem f20.spec (K a b : Nat) (l m : List Int) (hl : l.length = a) (hm : m.length = b) (lo : octets l) (mo : octets m) : f20.F K (a, b, a, l, b, m) = some (decide (l = m), a, l, b, m) := by
  simp only [f20.F, f20.T]
  rw [Nat.zero_add, ble_true (Nat.le_refl a), cond_t, Nat.zero_add, ble_true (Nat.le_refl b), cond_t, subI_self _ hl, subI_self _ hm, padT_self _ hl, padT_self _ hm]
  rw [strEq_mk l m lo mo]
theorem f16v1.pad (K N n a : Nat) (k : List Int) (ll : List Ent) (z l : List Int) (hl : l.length = a) (ha : a ≤ 64) (hK : 64 < K) :
    iter (f16v1.s0 K) K (N, a, n, k, ll, z, a, l) = some (N, 64, n, k, ll, z, 64, padT l 64) := by
  have := iter_for (stp := f16v1.s0 K) (N := 64 - a) (fun i => (N, a + i, n, k, ll, z, a + i, l ++ List.replicate i 0)) (y := some (N, 64, n, k, ll, z, 64, padT l 64)) ?_ ?_ (K := K) (by omega)
  · simpa using this
  · intro i hi rec
    simp only [f16v1.s0, f16v1.s0t]
    rw [decide_eq_true (show (((a + i : Nat) : Nat) : Int) < 64 by omega), cond_t, ble_true (Nat.le_refl (a + i)), fitB_true (by omega), Bool.and_self, cond_t, padT_self _ (show (l ++ List.replicate i 0).length = a + i by simp [hl]), List.append_assoc, ← List.replicate_succ']
    rfl
  · intro rec
    simp only [f16v1.s0, f16v1.s0t]
    rw [show a + (64 - a) = 64 by omega, decide_eq_false (show ¬ (((64 : Nat) : Nat) : Int) < 64 by omega), cond_f]
    congr 8
    refine list_getD (by simp [padT, hl]; omega) fun i hi => ?_
    have hi' : i < 64 := by simp [hl] at hi; omega
    rw [getD_padT, if_pos hi']
    simp only [List.getD_eq_getElem?_getD]
    by_cases h1 : i < a
    · rw [List.getElem?_append_left (by omega)]
    · rw [List.getElem?_append_right (by omega), List.getElem?_eq_none (show l.length ≤ i by omega), List.getElem?_replicate]
      split <;> rfl
theorem f16v1.both (K N n : Nat) (k : List Int) (ll : List Ent) (z kb : List Int) (hk : kb.length = 64) (hK : 64 < K) :
    iter (f16v1.s2 K) K (N, 64, 0, 0, 0, n, k, ll, z, 64, kb, 0, [], 0, []) = some (N, 64, 64, n, k, ll, z, 64, Sh.xr 54 kb, 64, Sh.xr 92 kb) := by
  have := iter_for (stp := f16v1.s2 K) (N := 64) (fun i => (N, 64, i, i, (i : Int), n, k, ll, z, 64, kb, i, Sh.xr 54 (kb.take i), i, Sh.xr 92 (kb.take i))) (y := some (N, 64, 64, n, k, ll, z, 64, Sh.xr 54 kb, 64, Sh.xr 92 kb)) ?_ ?_ hK
  · exact this
  · intro i hi rec
    have hx : ∀ y : Int, (Sh.xr y (kb.take i)).length = i := fun y => by rw [xr_length, List.length_take]; omega
    have hn : ∀ y : Int, Sh.xr y (kb.take i) ++ [bits .xor .u8 (List.getD kb i 0) y] = Sh.xr y (kb.take (i + 1)) := fun y => by
      rw [← take_next (show i < kb.length by omega)]
      simp [Sh.xr]
    simp only [f16v1.s2, f16v1.s2t]
    rw [decide_eq_true (show (i : Int) < 64 by omega), cond_t, decide_eq_true (show (0 : Int) ≤ (i : Int) ∧ (i : Int) < ((64 : Nat) : Int) by omega), Int.toNat_natCast, Nat.zero_add, Rs.blt hi, Bool.and_self, cond_t, cond_t, ble_true (Nat.le_refl i), fitB_true (by omega), Bool.and_self, cond_t, cond_t, cond_t, cond_t, wrap_i _ (by omega) (by omega), padT_self _ (hx 54), padT_self _ (hx 92), hn, hn]
    rfl
  · intro rec
    simp only [f16v1.s2, f16v1.s2t]
    rw [decide_eq_false (show ¬ (((64 : Nat) : Int)) < 64 by omega), cond_f, List.take_of_length_le (by omega)]
theorem f16v1.parts (K N n : Nat) (k : List Int) (ll : List Ent) (z m r : List Int) (hN : ll.length = N) (hNb : N ≤ 1000000) (hm : m.length = 64) (ht : Rs.tot ll ≤ 1000000000) (hK : N < K) :
    iter (f16v1.s4 K) K (N, 64, 64, 0, n, k, ll, z, 64, m, 64, r) = some (64 + Rs.tot ll, 64, n, k, ll, z, 64 + Rs.tot ll, m ++ Rs.cat ll, 64, r) := by
  have := iter_for (stp := f16v1.s4 K) (N := N) (fun i => (N, 64 + Rs.tot (ll.take i), 64, (i : Int), n, k, ll, z, 64 + Rs.tot (ll.take i), m ++ Rs.cat (ll.take i), 64, r)) (y := some (64 + Rs.tot ll, 64, n, k, ll, z, 64 + Rs.tot ll, m ++ Rs.cat ll, 64, r)) ?_ ?_ hK
  · simpa [Rs.tot, Rs.cat] using this
  · intro i hi rec
    have hi' : i < ll.length := by omega
    have h1 := Rs.tot_next hi'
    have h2 := Rs.tot_take ll (i + 1)
    simp only [f16v1.s4, f16v1.s4t]
    rw [decide_eq_true (show (i : Int) < ((N : Nat) : Int) by omega), cond_t, decide_eq_true (show (0 : Int) ≤ (i : Int) ∧ (i : Int) < ((N : Nat) : Int) by omega), cond_t, Int.toNat_natCast, Nat.zero_add, Rs.blt hi', cond_t, Nat.zero_add, ble_true (Nat.le_refl _), ble_true (Nat.le_refl _), fitB_true (by omega), Bool.and_self, Bool.and_self, cond_t, wrap_i _ (by omega) (by omega),
      padT_self _ (show (m ++ Rs.cat (ll.take i)).length = 64 + Rs.tot (ll.take i) by rw [List.length_append, hm, Rs.cat_length]), show subI (entAt ll i).2.2 0 (entAt ll i).1 = Rs.sh (entAt ll i) from rfl, padT_self _ (Rs.sh_length _), List.append_assoc, ← Rs.cat_next hi', Nat.add_assoc, ← h1]
    rfl
  · intro rec
    simp only [f16v1.s4, f16v1.s4t]
    rw [decide_eq_false (show ¬ ((N : Nat) : Int) < ((N : Nat) : Int) by omega), cond_f, List.take_of_length_le (by omega)]
theorem Rs.ref_run (K N n a : Nat) (k : List Int) (ll : List Ent) (hN : ll.length = N) {b : Nat} (ho : Rs.ok b ll) (hNb : N ≤ 1000000) (ht : Rs.tot ll ≤ 1000000000) (hK : 400 + N + Rs.tot ll < K) (z l : List Int) (hl : l.length = a) (ha : a ≤ 64) :
    ((iter (f16v1.s0 K) K (N, a, n, k, ll, z, a, l)).bind fun y35 =>
      (iter (f16v1.s2 K) K (y35.1, y35.2.1, 0, 0, 0, y35.2.2.1, y35.2.2.2.1, y35.2.2.2.2.1, y35.2.2.2.2.2.1, y35.2.2.2.2.2.2.1, y35.2.2.2.2.2.2.2, 0, [], 0, [])).bind fun y36 =>
      (iter (f16v1.s4 K) K (y36.1, y36.2.1, y36.2.2.1, 0, y36.2.2.2.1, y36.2.2.2.2.1, y36.2.2.2.2.2.1, y36.2.2.2.2.2.2.1, y36.2.2.2.2.2.2.2.1, y36.2.2.2.2.2.2.2.2.1, y36.2.2.2.2.2.2.2.2.2.1, y36.2.2.2.2.2.2.2.2.2.2)).bind fun y37 =>
      bif ((Nat.ble (0 + y37.1) y37.2.2.2.2.2.2.1 && true) && true) then
        (f52.F K (y37.1, y37.1, (subI y37.2.2.2.2.2.2.2.1 0 y37.1))).bind fun y38 =>
        bif (Nat.ble y37.2.1 y37.2.2.2.2.2.2.2.2.1 && (fitB ((y37.2.1 + 32) * 1))) then
          bif ((Nat.ble (0 + (y37.2.1 + 32)) (y37.2.1 + 32) && true) && true) then
            (f52.F K (y37.2.1 + 32, y37.2.1 + 32, (subI ((padT y37.2.2.2.2.2.2.2.2.2 y37.2.1) ++ (padT (subI y38.1 0 32) 32)) 0 (y37.2.1 + 32)))).bind fun y42 =>
            some (y42.1, y37.2.2.1, y37.2.2.2.1, y37.2.2.2.2.1)
          else
            none
        else
          none
      else
        none) = some (Sh.sum (Sh.xr 92 (padT l 64) ++ Sh.sum (Sh.xr 54 (padT l 64) ++ Rs.cat ll)), n, k, ll) := by
  rw [f16v1.pad K N n a k ll z l hl ha (by omega), bind_s]
  simp only []
  rw [f16v1.both K N n k ll z _ (padT_length _ _) (by omega), bind_s]
  simp only []
  rw [f16v1.parts K N n k ll z _ _ hN hNb (by rw [xr_length, padT_length]) ht (by omega), bind_s]
  simp only []
  have hl1 : (Sh.xr 54 (padT l 64) ++ Rs.cat ll).length = 64 + Rs.tot ll := by rw [List.length_append, xr_length, padT_length, Rs.cat_length]
  have hl2 : (Sh.xr 92 (padT l 64)).length = 64 := by rw [xr_length, padT_length]
  rw [Nat.zero_add, ble_true (Nat.le_refl _), Bool.and_self, Bool.and_self, cond_t, subI_self _ hl1, f52.spec K _ _ hl1 (octets_append (xr_octets _ _) (Rs.cat_octets ho)) (by omega) (by omega), bind_s]
  simp only []
  have hl3 : (Sh.xr 92 (padT l 64) ++ Sh.sum (Sh.xr 54 (padT l 64) ++ Rs.cat ll)).length = 64 + 32 := by rw [List.length_append, hl2, sum_length]
  rw [ble_true (Nat.le_refl 64), fitB_true (by omega), Bool.and_self, cond_t, Nat.zero_add, ble_true (Nat.le_refl (64 + 32)), Bool.and_self, Bool.and_self, cond_t, subI_self _ (sum_length _), padT_self _ (sum_length _), padT_self _ hl2, subI_self _ hl3, f52.spec K _ _ hl3 (octets_append (xr_octets _ _) (sum_octets _)) (by omega) (by omega), bind_s]
theorem f16v1.spec (K N n : Nat) (k : List Int) (ll : List Ent) (hkn : k.length = n) (hko : octets k) (hn : n ≤ 1000000000) (hN : ll.length = N) {b : Nat} (ho : Rs.ok b ll) (hNb : N ≤ 1000000) (ht : Rs.tot ll ≤ 1000000000) (hK : 400 + n + N + Rs.tot ll < K) :
    f16v1.F K (n, N, n, k, ll) = some (Sh.mac k (Rs.cat ll), n, k, ll) := by
  simp only [f16v1.F, f16v1.T]
  rw [Nat.zero_add, ble_true (Nat.le_refl n), fitB_true (by omega), Bool.and_self, cond_t, subI_self _ hkn]
  by_cases h : 64 < n
  · rw [decide_eq_true (show ((n : Nat) : Int) > 64 by omega), cond_t, Bool.and_self, cond_t, subI_self _ hkn, f52.spec K n k hkn hko (by omega) (by omega), bind_s]
    simp only []
    rw [subI_self _ (sum_length k)]
    refine (Rs.ref_run K N n 32 k ll hN ho hNb ht (by omega) [0, 0, 0, 0, 0, 0, 0, 0, 0, 0, 0, 0, 0, 0, 0, 0, 0, 0, 0, 0, 0, 0, 0, 0, 0, 0, 0, 0, 0, 0, 0, 0] (Sh.sum k) (sum_length k) (by omega)).trans ?_
    rw [Sh.mac, Sh.key, if_pos (by omega)]
  · rw [decide_eq_false (show ¬ ((n : Nat) : Int) > 64 by omega), cond_f]
    refine (Rs.ref_run K N n n k ll hN ho hNb ht (by omega) [0, 0, 0, 0, 0, 0, 0, 0, 0, 0, 0, 0, 0, 0, 0, 0, 0, 0, 0, 0, 0, 0, 0, 0, 0, 0, 0, 0, 0, 0, 0, 0] k hkn (by omega)).trans ?_
    rw [Sh.mac, Sh.key, if_neg (by omega)]
end Go.Proofs

namespace Go.Proofs
open Go.VM
abbrev f3.Ty0 := Nat × Nat × Int × Nat × List Int × List Ent
abbrev f3.Ty1 := Nat × Nat × Nat × List Int × List Ent
abbrev f3.Ty2 := Bool × Nat × List Int × List Ent
abbrev f3.Ty3 := Nat × List Int × List Ent
noncomputable def f3.c : Code := bodyOf Try.f3
def f3.s0t (K : Nat) (rec : f3.Ty0 → Option ((f3.Ty2) ⊕ (f3.Ty3))) (t0 : Nat) (t1 : Nat) (t7 : Int) (b0_0 : Nat) (b0_1 : List Int) (b2 : List Ent) : Option ((f3.Ty2) ⊕ (f3.Ty3)) :=
  bif (decide (t7 < ((t1 : Nat) : Int))) then
    bif decide (0 ≤ t7 ∧ t7 < ((t1 : Nat) : Int)) then
      let v15 := 0 + (Int.toNat t7)
      bif Nat.blt v15 (List.length b2) then
        let v16 := (entAt b2 v15).1
        bif ((Nat.ble (0 + t0) b0_0 && true) && ((Nat.ble (0 + v16) ((entAt b2 v15).1) && true) && true)) then
          (f19.F K (t0, v16, t0, (subI b0_1 0 t0), v16, (subI ((entAt b2 v15).2.2) 0 v16))).bind fun y19 =>
          bif decide (0 ≤ t7 ∧ t7 < ((t1 : Nat) : Int)) then
            let v20 := 0 + (Int.toNat t7)
            bif Nat.blt v20 (List.length b2) then
              let v21 := (entAt b2 v20).1
              bif ((Nat.ble (0 + t0) b0_0 && true) && ((Nat.ble (0 + v21) ((entAt b2 v20).1) && true) && true)) then
                (f20.F K (t0, v21, t0, (subI b0_1 0 t0), v21, (subI ((entAt b2 v20).2.2) 0 v21))).bind fun y24 =>
                bif (!(y19.1 == y24.1)) then
                  some (.inl (false, b0_0, b0_1, b2))
                else
                  rec (t0, t1, (IntKind.wrap .i64 (t7 + 1)), b0_0, b0_1, b2)
              else
                none
            else
              none
          else
            none
        else
          none
      else
        none
    else
      none
  else
    some (.inr (b0_0, b0_1, b2))
def f3.s0 (K : Nat) (rec : f3.Ty0 → Option ((f3.Ty2) ⊕ (f3.Ty3))) (x : f3.Ty0) : Option ((f3.Ty2) ⊕ (f3.Ty3)) := f3.s0t K rec x.1 x.2.1 x.2.2.1 x.2.2.2.1 x.2.2.2.2.1 x.2.2.2.2.2
noncomputable def f3.s0.b : Code := (findLoop 0 f3.c).getD .skip
def f3.s0.h : Hint := { lv := [0, 1, 7] }
def f3.s0.ho : Hint := { lv := [4] }
def f3.s0.shp (x : f3.Ty0) : VS := ⟨[(0, .vw true 0 0 x.1 1), (1, .vw true 2 0 x.2.1 3), (7, .int .i64 x.2.2.1)], [(0, ([.ints .u8 x.2.2.2.1 x.2.2.2.2.1], 0, .ro)), (2, ([], 0, .rr false 4 x.2.2.2.2.2))], 5⟩
def f3.s0.inX : VS → Option (f3.Ty0)
  | ⟨[(0, .vw true 0 0 t0 1), (1, .vw true 2 0 t1 3), (7, .int .i64 t7)], [(0, ([.ints .u8 b0_0 b0_1], 0, .ro)), (2, ([], 0, .rr false 4 b2))], 5⟩ => some (t0, t1, t7, b0_0, b0_1, b2)
  | _ => none
def f3.s0.o0 (y : f3.Ty2) : VS := ⟨[(4, .bool y.1)], [(0, ([.ints .u8 y.2.1 y.2.2.1], 0, .ro)), (2, ([], 0, .rr false 4 y.2.2.2))], 5⟩
def f3.s0.o1 (y : f3.Ty3) : VS := ⟨[], [(0, ([.ints .u8 y.1 y.2.1], 0, .ro)), (2, ([], 0, .rr false 4 y.2.2))], 5⟩
def f3.s0.des : ∀ α : Type, ((f3.Ty2) ⊕ (f3.Ty3)) → (Ex → VS → Option α) → Option α := (desA (des1 (.ret) f3.s0.o0) (des1 (.exit 0) f3.s0.o1))
def f3.s0.out : (f3.Ty2) ⊕ (f3.Ty3) → Ex × VS := (alt (fun y => (.ret, f3.s0.o0 y)) (fun y => (.exit 0, f3.s0.o1 y)))
theorem f3.s0.desOK : ∀ α y (k : Ex → VS → Option α), f3.s0.des α y k = k (f3.s0.out y).1 (f3.s0.out y).2 := (desA_ok (fun _ _ _ => rfl) (fun _ _ _ => rfl))
def f3.s0.inY : Ex → VS → Option ((f3.Ty2) ⊕ (f3.Ty3))
  | .ret, ⟨[(4, .bool t4)], [(0, ([.ints .u8 b0_0 b0_1], 0, .ro)), (2, ([], 0, .rr false 4 b2))], 5⟩ => some (.inl (t4, b0_0, b0_1, b2))
  | .exit 0, ⟨[], [(0, ([.ints .u8 b0_0 b0_1], 0, .ro)), (2, ([], 0, .rr false 4 b2))], 5⟩ => some (.inr (b0_0, b0_1, b2))
  | _, _ => none
def f3.lp (K : Nat) : Nat → Option (Hint × Summ) := tabLp [(0, f3.s0.h, summOf (iter (f3.s0 K) K) f3.s0.inX f3.s0.des)]
noncomputable def f3.tab (K : Nat) : List (Nat × Entry) := [(11, (rwE 0 (f11.E K))), (12, (f12.E K)), (13, (viewE [(0, .u8)] (f13.E K))), (14, (f14.E K)), (15, (rwE 1 (viewE [(0, .u8)] (f15v1.E K)))), (16, (rwE 1 (viewE [(0, .u8)] (f16v1.E K)))), (17, (f17.E K)), (18, (f18.E K)), (19, (viewE [(0, .u8), (1, .u8)] (f19.E K))), (20, (viewE [(0, .u8), (1, .u8)] (f20.E K)))]
theorem f3.tabOK (K : Nat) : SpecOK Try.prog (tabSp (f3.tab K)) := tab_ok ((tab_cons (rw_ok (f11.ok K)) (tab_cons (f12.ok K) (tab_cons (view_ok (f13.ok K)) (tab_cons (f14.ok K) (tab_cons (rw_ok (view_ok (f15v1.ok K))) (tab_cons (rw_ok (view_ok (f16v1.ok K))) (tab_cons (f17.ok K) (tab_cons (f18.ok K) (tab_cons (view_ok (f19.ok K)) (tab_cons (view_ok (f20.ok K)) tab_nil)))))))))))
theorem f3.s0.eq (K : Nat) (rec : f3.Ty0 → Option ((f3.Ty2) ⊕ (f3.Ty3))) (x : f3.Ty0) : f3.s0 K rec x = roundL (getA tys) (tabSp (f3.tab K)) 59 5 (f3.lp K) 400 f3.s0.b f3.s0.h f3.s0.ho f3.s0.shp f3.s0.inX f3.s0.inY rec x := by kernel_rfl
theorem f3.s0.lok (K : Nat) : LoopsOK Try.prog 59 5 (f3.lp K) f3.s0.b := loops_ok (by
  have h : loopsIn (f3.lp K) f3.s0.b = [] := by kernel_rfl
  rw [h]; simp)
theorem f3.s0.ok (K : Nat) : SummOK Try.prog 59 5 (summOf (iter (f3.s0 K) K) f3.s0.inX f3.s0.des) f3.s0.b :=
  loop_ok mix tys_ok (f3.tabOK K) (h := f3.s0.h) (ho := f3.s0.ho) (shp := f3.s0.shp) (inX := f3.s0.inX) (des := f3.s0.des) (out := f3.s0.out) (inY := f3.s0.inY) (fuel := 400)
    (by intro st x h; unfold f3.s0.inX at h; split at h <;> simp at h; subst h; rfl)
    (by intro e st y h; unfold f3.s0.inY at h; split at h <;> simp at h <;> subst h <;> rfl)
    f3.s0.desOK (f3.s0.lok K) (f3.s0 K) (f3.s0.eq K) K
theorem f3.loops (K : Nat) : LoopsOK Try.prog 59 5 (f3.lp K) f3.c := loops_ok (by
  have h : loopsIn (f3.lp K) f3.c = [(0, f3.s0.b)] := by kernel_rfl
  rw [h]
  intro p hp
  simp only [List.mem_cons, List.not_mem_nil, or_false] at hp
  rcases hp with rfl
  · exact ⟨_, rfl, (f3.s0.ok K)⟩)
def f3.T (K : Nat) (a0 : Nat) (a1 : Nat) (m0_0 : Nat) (m0_1 : List Int) (m2 : List Ent) : Option (f3.Ty2) :=
  bif Nat.beq a1 (List.length m2) then
    (f11.F K (a1, m2)).bind fun y1 =>
    bif y1.1 then
      (f12.F K ()).bind fun y2 =>
      some (y2, m0_0, m0_1, m2)
    else
      bif (decide (((a0 : Nat) : Int) > 20000)) then
        (f12.F K ()).bind fun y5 =>
        some (y5, m0_0, m0_1, m2)
      else
        bif ((Nat.ble (0 + a0) m0_0 && true) && true) then
          (f13.F K (a0, a0, (subI m0_1 0 a0))).bind fun y6 =>
          (f14.F K (a1, m2)).bind fun y7 =>
          bif (Nat.ble y7.1 (List.length y7.2.2.2.2) && (Nat.ble y7.1 y7.2.1)) then
            bif ((Nat.ble (0 + y6.1) y6.2.2.2.2.1 && (Nat.ble y6.1 y6.2.1)) && true) then
              (f15v1.F K (y6.1, y7.1, y6.1, (subI y6.2.2.2.2.2 0 y6.1), (List.take y7.1 y7.2.2.2.2))).bind fun y8 =>
              bif Nat.beq a1 (List.length m2) then
                bif ((Nat.ble (0 + a0) m0_0 && true) && true) then
                  (f16v1.F K (a0, a1, a0, (subI m0_1 0 a0), m2)).bind fun y9 =>
                  bif (!(eqL 32 y8.1 y9.1 && true)) then
                    some (false, m0_0, m0_1, m2)
                  else
                    (f17.F K (y6.1, y6.2.1, a0, y6.2.2.2.2.1, y6.2.2.2.2.2, m0_0, m0_1)).bind fun y11 =>
                    bif !y11.1 then
                      some (false, m0_0, m0_1, m2)
                    else
                      (f18.F K (y7.1, y7.2.1, a1, y7.2.2.2.1, y7.2.2.2.2, m2)).bind fun y12 =>
                      bif !y12.1 then
                        some (false, m0_0, m0_1, m2)
                      else
                        (iter (f3.s0 K) K (a0, a1, 0, m0_0, m0_1, m2)).bind fun y27 =>
                        alt (fun y28 =>
                          some (y28.1, y28.2.1, y28.2.2.1, y28.2.2.2)) (fun y29 =>
                          (f12.F K ()).bind fun y30 =>
                          some (y30, y29.1, y29.2.1, y29.2.2)) y27
                else
                  none
              else
                none
            else
              none
          else
            none
        else
          none
  else
    none
def f3.F (K : Nat) (x : f3.Ty1) : Option (f3.Ty2) := f3.T K x.1 x.2.1 x.2.2.1 x.2.2.2.1 x.2.2.2.2
def f3.av (x : f3.Ty1) : List VV := [.vw true 0 0 x.1 1, .vw true 2 0 x.2.1 3]
def f3.bl (x : f3.Ty1) : List (Nat × Blk) := [(0, ([.ints .u8 x.2.2.1 x.2.2.2.1], 0, .ro)), (2, ([], 0, .rr false 4 x.2.2.2.2))]
def f3.inA : VS → Option (f3.Ty1)
  | ⟨[(0, .vw true 0 0 a0 1), (1, .vw true 2 0 a1 3)], [(0, ([.ints .u8 m0_0 m0_1], 0, .ro)), (2, ([], 0, .rr false 4 m2))], 5⟩ => some (a0, a1, m0_0, m0_1, m2)
  | _ => none
def f3.o0 (y : f3.Ty2) : VS := ⟨[(0, .bool y.1)], [(0, ([.ints .u8 y.2.1 y.2.2.1], 0, .ro)), (2, ([], 0, .rr false 4 y.2.2.2))], 5⟩
def f3.des : ∀ α : Type, (f3.Ty2) → (VS → Option α) → Option α := (dv1 f3.o0)
def f3.out : f3.Ty2 → VS := f3.o0
def f3.inR : VS → Option (f3.Ty2)
  | ⟨[(0, .bool y)], [(0, ([.ints .u8 z0_0 z0_1], 0, .ro)), (2, ([], 0, .rr false 4 z2))], 5⟩ => some (y, z0_0, z0_1, z2)
  | _ => none
noncomputable def f3.E (K : Nat) : Entry := genE 5 f3.inA (f3.F K) f3.des
theorem f3.eq (K : Nat) (x : f3.Ty1) : f3.F K x = xrun (getA tys) (tabSp (f3.tab K)) Try.f3.ntmps 5 (f3.lp K) 400 f3.c ⟨initL 0 (f3.av x), f3.bl x, 5⟩ (contF (getA tys) 5 Try.f3.results.toList f3.inR) := by kernel_rfl
theorem f3.ok (K : Nat) : EntryOK Try.prog 3 (f3.E K) :=
  gen_ok mix tys_ok (f3.tabOK K) Try.func3 (by kernel_rfl : Try.f3.body = some f3.c) (by kernel_rfl) (f3.loops K) (av := f3.av) (bl := f3.bl) (out := f3.out) (fuel := 400)
    (by intro s x h; unfold f3.inA at h; split at h <;> simp at h; subst h; rfl) (fun _ => Nat.le_of_ble_eq_true rfl)
    (by intro s y h; unfold f3.inR at h; split at h <;> simp at h <;> subst h <;> rfl) (fun _ _ _ => rfl) (f3.eq K)
end Go.Proofs

namespace Go.Proofs
open Go.VM
theorem f3.loop (K N n : Nat) (k : List Int) (ll : List Ent) (hkn : k.length = n) (hko : octets k) (hn : n ≤ 20000) (hN : ll.length = N) (ho : Rs.ok 20000 ll) (hNb : N ≤ 60) (hK : 100000 ≤ K) :
    iter (f3.s0 K) K (n, N, 0, n, k, ll) = some (.inr (n, k, ll)) := by
  refine iter_for (stp := f3.s0 K) (N := N) (fun i => (n, N, (i : Int), n, k, ll)) (y := some (.inr (n, k, ll))) ?_ ?_ (by omega)
  · intro i hi rec
    have hi' : i < ll.length := by omega
    obtain ⟨hb, hoe⟩ := ho _ (Rs.at_mem hi')
    simp only [f3.s0, f3.s0t]
    have h19 := f19.spec K n (entAt ll i).1 k (Rs.sh (entAt ll i)) hkn (Rs.sh_length _) hko hoe (by omega) (by omega)
    have h20 := f20.spec K n (entAt ll i).1 k (Rs.sh (entAt ll i)) hkn (Rs.sh_length _) hko hoe
    rw [decide_eq_true (show (i : Int) < ((N : Nat) : Int) by omega), cond_t, decide_eq_true (show (0 : Int) ≤ (i : Int) ∧ (i : Int) < ((N : Nat) : Int) by omega), cond_t, Int.toNat_natCast, Nat.zero_add, Rs.blt hi', cond_t, Nat.zero_add, ble_true (Nat.le_refl _), Nat.zero_add, ble_true (Nat.le_refl _), Bool.and_self, Bool.and_self, Bool.and_self, cond_t, subI_self _ hkn]
    rw [show f19.F K (n, (entAt ll i).1, n, k, (entAt ll i).1, subI (entAt ll i).2.2 0 (entAt ll i).1) = _ from h19, bind_s, cond_t, cond_t, cond_t]
    rw [show f20.F K (n, (entAt ll i).1, n, k, (entAt ll i).1, subI (entAt ll i).2.2 0 (entAt ll i).1) = _ from h20, bind_s]
    simp only []
    rw [show (decide (k = Rs.sh (entAt ll i)) == decide (k = Rs.sh (entAt ll i))) = true from beq_self_eq_true _, Bool.not_true, cond_f, wrap_i _ (by omega) (by omega)]
    rfl
  · intro rec
    simp only [f3.s0, f3.s0t]
    rw [decide_eq_false (show ¬ ((N : Nat) : Int) < ((N : Nat) : Int) by omega), cond_f]
theorem f3.holds (k : List Int) (ko : octets k) (ps : List (List Int)) (po : ∀ p ∈ ps, octets p) (pb : ∀ p ∈ ps, p.length ≤ 140737488351232) :
    f3.F 100000 (k.length, ps.length, k.length, k, Rs.ents ps) = some (true, k.length, k, Rs.ents ps) := by
  generalize hkn : k.length = n
  generalize hpn : ps.length = N
  have hN : (Rs.ents ps).length = N := by rw [Rs.ents_length, hpn]
  have hb : ∀ e ∈ Rs.ents ps, e.1 ≤ 140737488355328 := fun e he => by
    have := pb _ (Rs.ents_sh he).1
    rw [Rs.sh_length] at this; omega
  simp only [f3.F, f3.T]
  obtain ⟨g, hg, hg2⟩ := f11.spec 100000 N (Rs.ents ps) hN hb (by omega)
  rw [show Nat.beq N (List.length (Rs.ents ps)) = true by rw [hN]; exact Nat.beq_refl N, cond_t, hg, bind_s]
  simp only []
  cases g with
  | true => rw [cond_t, f12.holds, bind_s]
  | false =>
  obtain ⟨h60, ht⟩ := hg2 rfl
  rw [cond_f]
  by_cases h1 : 20000 < n
  · rw [decide_eq_true (show ((n : Nat) : Int) > 20000 by omega), cond_t, f12.holds, bind_s]
  have hb2 : ∀ e ∈ Rs.ents ps, e.1 ≤ 20000 := fun e he => Nat.le_trans (Rs.tot_mem he) ht
  have ho : Rs.ok 20000 (Rs.ents ps) := Rs.ents_ok po hb2
  have hs : ∀ e ∈ Rs.ents ps, e.2.2 = Rs.sh e := fun e he => (Rs.ents_sh he).2
  rw [decide_eq_false (show ¬ ((n : Nat) : Int) > 20000 by omega), cond_f, Nat.zero_add, ble_true (Nat.le_refl n), Bool.and_self, Bool.and_self, cond_t, subI_self _ hkn, f13.spec 100000 n k hkn (by omega) (by omega), bind_s]
  rw [f14.spec 100000 N _ hN (fun e he => by have := hb2 e he; omega) (by omega) (.inr ⟨fun e he => by have := hb2 e he; omega, by omega⟩), bind_s]
  simp only []
  have hlt : (List.map Rs.tw (Rs.ents ps)).length = N := by rw [List.length_map, hN]
  have htk : List.take N (List.map Rs.tw (Rs.ents ps) ++ [(1, 1, [77])]) = List.map Rs.tw (Rs.ents ps) := by rw [List.take_append_of_le_length (by omega), List.take_of_length_le (by omega)]
  have hl1 : (List.map Rs.tw (Rs.ents ps) ++ [(1, 1, [77])]).length = N + 1 := by rw [List.length_append, hlt]; rfl
  rw [hl1, ble_true (show N ≤ N + 1 by omega), Bool.and_self, cond_t, Nat.zero_add, ble_true (show n ≤ n + 1 by omega), Bool.and_self, Bool.and_self, cond_t, subI_front k [77] hkn, htk, f15v1.spec 100000 N n k _ hkn ko (by omega) hlt (Rs.tw_ok ho) (by omega) (by omega) (by omega), bind_s, cond_t, cond_t, f16v1.spec 100000 N n k _ hkn ko (by omega) hN ho (by omega) (by omega) (by omega), bind_s]
  simp only []
  rw [Rs.tw_cat, eqL_refl, Bool.and_self, Bool.not_true, cond_f, f17.spec 100000 n k hkn (by omega) (by omega), bind_s]
  simp only []
  rw [Bool.not_true, cond_f, f18.spec 100000 N _ hN hs (fun e he => by have := hb2 e he; omega) (by omega) (by omega) (fun e he => by have := hb2 e he; omega), bind_s]
  simp only []
  rw [Bool.not_true, cond_f, f3.loop 100000 N n k _ hkn ko (by omega) hN ho h60 (by omega), bind_s, altr, f12.holds, bind_s]
end Go.Proofs
