/- Plain laws: lemmas that hold with no condition but those that each states. -/
import Derived.Test.YtmbbkmljmienjaaQ2
import Derived.Test.YtmbbkmljmienjaaQ3
import Derived.Test.YtmbbkmljmienjaaQ8
import Derived.Test.YtmbbkmljmienjaaQ7
namespace Go.Proofs
open Go.VM
abbrev f89.Ty0 := Nat × Nat × Int × Int × Int × Nat × List Int × List Int × List Int × Nat × List Int × List Int
abbrev f89.Ty1 := Nat × Nat × Int × Int × Nat × List Int × List Int × List Int × Nat × List Int × List Int
abbrev f89.Ty2 := Nat × Nat × Int × Nat × List Int × List Int × List Int × Nat × List Int × List Int
abbrev f89.Ty3 := Nat × Nat × List Int × List Int × Nat × List Int × List Int
abbrev f89.Ty4 := Nat × List Int × Nat × List Int × Nat × List Int
abbrev f89.Ty5 := Nat × List Int × Nat × List Int
noncomputable def f89.c : Code := bodyOf Try.f89
def f89.s2t (K : Nat) (rec : f89.Ty0 → Option (f89.Ty1)) (t0 : Nat) (t6 : Nat) (t8 : Int) (t9 : Int) (t10 : Int) (b0_0 : Nat) (b0_1 : List Int) (b2 : List Int) (b3 : List Int) (b4_0 : Nat) (b4_1 : List Int) (b6 : List Int) : Option (f89.Ty1) :=
  bif (decide (t10 ≥ 0)) then
    (f73.F K (b6, b6)).bind fun y4 =>
    bif decide (0 ≤ t8 ∧ t8 < ((t0 : Nat) : Int)) then
      let v5 := 0 + (Int.toNat t8)
      bif Nat.blt v5 b0_0 then
        bif decide (0 ≤ t10) then
          (f87.F K (Int.tmod (IntKind.wrap .u64 (shiftI .shr .u8 (List.getD b0_1 v5 0) t10)) 2)).bind fun y10 =>
          (f73.F K (y4.1, y10)).bind fun y11 =>
          let v12 := IntKind.wrap .i64 (2 * t9)
          bif (y4.2 == 1) then
            (f72.F K (y11.1, b2)).bind fun y13 =>
            rec (t0, t6, t8, (IntKind.wrap .i64 (v12 + 1)), (IntKind.wrap .i64 (t10 - 1)), b0_0, b0_1, b2, b3, b4_0, b4_1, y13.1)
          else
            (f71.F K (y11.1, b2)).bind fun y16 =>
            bif (decide (y16 ≥ 0)) then
              (f72.F K (y11.1, b2)).bind fun y18 =>
              rec (t0, t6, t8, (IntKind.wrap .i64 (v12 + 1)), (IntKind.wrap .i64 (t10 - 1)), b0_0, b0_1, b2, b3, b4_0, b4_1, y18.1)
            else
              rec (t0, t6, t8, v12, (IntKind.wrap .i64 (t10 - 1)), b0_0, b0_1, b2, b3, b4_0, b4_1, y11.1)
        else
          none
      else
        none
    else
      none
  else
    some (t0, t6, t8, t9, b0_0, b0_1, b2, b3, b4_0, b4_1, b6)
def f89.s2 (K : Nat) (rec : f89.Ty0 → Option (f89.Ty1)) (x : f89.Ty0) : Option (f89.Ty1) := f89.s2t K rec x.1 x.2.1 x.2.2.1 x.2.2.2.1 x.2.2.2.2.1 x.2.2.2.2.2.1 x.2.2.2.2.2.2.1 x.2.2.2.2.2.2.2.1 x.2.2.2.2.2.2.2.2.1 x.2.2.2.2.2.2.2.2.2.1 x.2.2.2.2.2.2.2.2.2.2.1 x.2.2.2.2.2.2.2.2.2.2.2
noncomputable def f89.s2.b : Code := (findLoop 2 f89.c).getD .skip
def f89.s2.h : Hint := { lv := [0, 3, 5, 6, 7, 8, 9, 10] }
def f89.s2.ho : Hint := { lv := [0, 3, 5, 6, 7, 8, 9] }
def f89.s2.shp (x : f89.Ty0) : VS := ⟨[(0, .vw true 0 0 x.1 1), (3, .ptr 2 0), (5, .ptr 3 0), (6, .vec 4 0 x.2.1 5), (7, .ptr 6 0), (8, .int .i64 x.2.2.1), (9, .int .i64 x.2.2.2.1), (10, .int .i64 x.2.2.2.2.1)], [(0, ([.ints .u8 x.2.2.2.2.2.1 x.2.2.2.2.2.2.1], 0, .ro)), (2, ([.ints .u64 4 x.2.2.2.2.2.2.2.1], 39, .norm)), (3, ([.ints .u64 4 x.2.2.2.2.2.2.2.2.1], 39, .norm)), (4, ([.ints .u8 x.2.2.2.2.2.2.2.2.2.1 x.2.2.2.2.2.2.2.2.2.2.1], 5, .vec 5)), (6, ([.ints .u64 4 x.2.2.2.2.2.2.2.2.2.2.2], 39, .norm))], 7⟩
def f89.s2.inX : VS → Option (f89.Ty0)
  | ⟨[(0, .vw true 0 0 t0 1), (3, .ptr 2 0), (5, .ptr 3 0), (6, .vec 4 0 t6 5), (7, .ptr 6 0), (8, .int .i64 t8), (9, .int .i64 t9), (10, .int .i64 t10)], [(0, ([.ints .u8 b0_0 b0_1], 0, .ro)), (2, ([.ints .u64 4 b2], 39, .norm)), (3, ([.ints .u64 4 b3], 39, .norm)), (4, ([.ints .u8 b4_0 b4_1], 5, .vec 5)), (6, ([.ints .u64 4 b6], 39, .norm))], 7⟩ => some (t0, t6, t8, t9, t10, b0_0, b0_1, b2, b3, b4_0, b4_1, b6)
  | _ => none
def f89.s2.o0 (y : f89.Ty1) : VS := ⟨[(0, .vw true 0 0 y.1 1), (3, .ptr 2 0), (5, .ptr 3 0), (6, .vec 4 0 y.2.1 5), (7, .ptr 6 0), (8, .int .i64 y.2.2.1), (9, .int .i64 y.2.2.2.1)], [(0, ([.ints .u8 y.2.2.2.2.1 y.2.2.2.2.2.1], 0, .ro)), (2, ([.ints .u64 4 y.2.2.2.2.2.2.1], 39, .norm)), (3, ([.ints .u64 4 y.2.2.2.2.2.2.2.1], 39, .norm)), (4, ([.ints .u8 y.2.2.2.2.2.2.2.2.1 y.2.2.2.2.2.2.2.2.2.1], 5, .vec 5)), (6, ([.ints .u64 4 y.2.2.2.2.2.2.2.2.2.2], 39, .norm))], 7⟩
def f89.s2.des : ∀ α : Type, (f89.Ty1) → (Ex → VS → Option α) → Option α := (des1 (.exit 2) f89.s2.o0)
def f89.s2.out : f89.Ty1 → Ex × VS := (fun y => (.exit 2, f89.s2.o0 y))
theorem f89.s2.desOK : ∀ α y (k : Ex → VS → Option α), f89.s2.des α y k = k (f89.s2.out y).1 (f89.s2.out y).2 := (fun _ _ _ => rfl)
def f89.s2.inY : Ex → VS → Option (f89.Ty1)
  | .exit 2, ⟨[(0, .vw true 0 0 t0 1), (3, .ptr 2 0), (5, .ptr 3 0), (6, .vec 4 0 t6 5), (7, .ptr 6 0), (8, .int .i64 t8), (9, .int .i64 t9)], [(0, ([.ints .u8 b0_0 b0_1], 0, .ro)), (2, ([.ints .u64 4 b2], 39, .norm)), (3, ([.ints .u64 4 b3], 39, .norm)), (4, ([.ints .u8 b4_0 b4_1], 5, .vec 5)), (6, ([.ints .u64 4 b6], 39, .norm))], 7⟩ => some (t0, t6, t8, t9, b0_0, b0_1, b2, b3, b4_0, b4_1, b6)
  | _, _ => none
def f89.s0t (K : Nat) (rec : f89.Ty2 → Option (f89.Ty3)) (t0 : Nat) (t6 : Nat) (t8 : Int) (b0_0 : Nat) (b0_1 : List Int) (b2 : List Int) (b3 : List Int) (b4_0 : Nat) (b4_1 : List Int) (b6 : List Int) : Option (f89.Ty3) :=
  bif (decide (t8 < ((t0 : Nat) : Int))) then
    (iter (f89.s2 K) K (t0, t6, t8, 0, 7, b0_0, b0_1, b2, b3, b4_0, b4_1, b6)).bind fun y22 =>
    bif (Nat.ble y22.2.1 y22.2.2.2.2.2.2.2.2.1 && (fitB ((y22.2.1 + 1) * 1))) then
      rec (y22.1, (y22.2.1 + 1), (IntKind.wrap .i64 (y22.2.2.1 + 1)), y22.2.2.2.2.1, y22.2.2.2.2.2.1, y22.2.2.2.2.2.2.1, y22.2.2.2.2.2.2.2.1, (y22.2.1 + 1), ((padT y22.2.2.2.2.2.2.2.2.2.1 y22.2.1) ++ [(IntKind.wrap .u8 y22.2.2.2.1)]), y22.2.2.2.2.2.2.2.2.2.2)
    else
      none
  else
    some (t6, b0_0, b0_1, b3, b4_0, b4_1, b6)
def f89.s0 (K : Nat) (rec : f89.Ty2 → Option (f89.Ty3)) (x : f89.Ty2) : Option (f89.Ty3) := f89.s0t K rec x.1 x.2.1 x.2.2.1 x.2.2.2.1 x.2.2.2.2.1 x.2.2.2.2.2.1 x.2.2.2.2.2.2.1 x.2.2.2.2.2.2.2.1 x.2.2.2.2.2.2.2.2.1 x.2.2.2.2.2.2.2.2.2
noncomputable def f89.s0.b : Code := (findLoop 0 f89.c).getD .skip
def f89.s0.h : Hint := { lv := [0, 3, 5, 6, 7, 8], co := [(6, 5, [.ints .u8 0 []])] }
def f89.s0.ho : Hint := { lv := [5, 6, 7] }
def f89.s0.shp (x : f89.Ty2) : VS := ⟨[(0, .vw true 0 0 x.1 1), (3, .ptr 2 0), (5, .ptr 3 0), (6, .vec 4 0 x.2.1 5), (7, .ptr 6 0), (8, .int .i64 x.2.2.1)], [(0, ([.ints .u8 x.2.2.2.1 x.2.2.2.2.1], 0, .ro)), (2, ([.ints .u64 4 x.2.2.2.2.2.1], 39, .norm)), (3, ([.ints .u64 4 x.2.2.2.2.2.2.1], 39, .norm)), (4, ([.ints .u8 x.2.2.2.2.2.2.2.1 x.2.2.2.2.2.2.2.2.1], 5, .vec 5)), (6, ([.ints .u64 4 x.2.2.2.2.2.2.2.2.2], 39, .norm))], 7⟩
def f89.s0.inX : VS → Option (f89.Ty2)
  | ⟨[(0, .vw true 0 0 t0 1), (3, .ptr 2 0), (5, .ptr 3 0), (6, .vec 4 0 t6 5), (7, .ptr 6 0), (8, .int .i64 t8)], [(0, ([.ints .u8 b0_0 b0_1], 0, .ro)), (2, ([.ints .u64 4 b2], 39, .norm)), (3, ([.ints .u64 4 b3], 39, .norm)), (4, ([.ints .u8 b4_0 b4_1], 5, .vec 5)), (6, ([.ints .u64 4 b6], 39, .norm))], 7⟩ => some (t0, t6, t8, b0_0, b0_1, b2, b3, b4_0, b4_1, b6)
  | _ => none
def f89.s0.o0 (y : f89.Ty3) : VS := ⟨[(5, .ptr 2 0), (6, .vec 3 0 y.1 4), (7, .ptr 5 0)], [(0, ([.ints .u8 y.2.1 y.2.2.1], 0, .ro)), (2, ([.ints .u64 4 y.2.2.2.1], 39, .norm)), (3, ([.ints .u8 y.2.2.2.2.1 y.2.2.2.2.2.1], 5, .vec 4)), (5, ([.ints .u64 4 y.2.2.2.2.2.2], 39, .norm))], 6⟩
def f89.s0.des : ∀ α : Type, (f89.Ty3) → (Ex → VS → Option α) → Option α := (des1 (.exit 0) f89.s0.o0)
def f89.s0.out : f89.Ty3 → Ex × VS := (fun y => (.exit 0, f89.s0.o0 y))
theorem f89.s0.desOK : ∀ α y (k : Ex → VS → Option α), f89.s0.des α y k = k (f89.s0.out y).1 (f89.s0.out y).2 := (fun _ _ _ => rfl)
def f89.s0.inY : Ex → VS → Option (f89.Ty3)
  | .exit 0, ⟨[(5, .ptr 2 0), (6, .vec 3 0 t6 4), (7, .ptr 5 0)], [(0, ([.ints .u8 b0_0 b0_1], 0, .ro)), (2, ([.ints .u64 4 b2], 39, .norm)), (3, ([.ints .u8 b3_0 b3_1], 5, .vec 4)), (5, ([.ints .u64 4 b5], 39, .norm))], 6⟩ => some (t6, b0_0, b0_1, b2, b3_0, b3_1, b5)
  | _, _ => none
def f89.lp (K : Nat) : Nat → Option (Hint × Summ) := tabLp [(2, f89.s2.h, summOf (iter (f89.s2 K) K) f89.s2.inX f89.s2.des), (0, f89.s0.h, summOf (iter (f89.s0 K) K) f89.s0.inX f89.s0.des)]
noncomputable def f89.tab (K : Nat) : List (Nat × Entry) := [(73, (f73.E K)), (87, (f87.E K)), (72, (f72.E K)), (71, (f71.E K))]
theorem f89.tabOK (K : Nat) : SpecOK Try.prog (tabSp (f89.tab K)) := tab_ok ((tab_cons (f73.ok K) (tab_cons (f87.ok K) (tab_cons (f72.ok K) (tab_cons (f71.ok K) tab_nil)))))
theorem f89.s2.eq (K : Nat) (rec : f89.Ty0 → Option (f89.Ty1)) (x : f89.Ty0) : f89.s2 K rec x = roundL (getA tys) (tabSp (f89.tab K)) 69 2 (f89.lp K) 400 f89.s2.b f89.s2.h f89.s2.ho f89.s2.shp f89.s2.inX f89.s2.inY rec x := by kernel_rfl
theorem f89.s2.lok (K : Nat) : LoopsOK Try.prog 69 2 (f89.lp K) f89.s2.b := loops_ok (by
  have h : loopsIn (f89.lp K) f89.s2.b = [] := by kernel_rfl
  rw [h]; simp)
theorem f89.s2.ok (K : Nat) : SummOK Try.prog 69 2 (summOf (iter (f89.s2 K) K) f89.s2.inX f89.s2.des) f89.s2.b :=
  loop_ok mix tys_ok (f89.tabOK K) (h := f89.s2.h) (ho := f89.s2.ho) (shp := f89.s2.shp) (inX := f89.s2.inX) (des := f89.s2.des) (out := f89.s2.out) (inY := f89.s2.inY) (fuel := 400)
    (by intro st x h; unfold f89.s2.inX at h; split at h <;> simp at h; subst h; rfl)
    (by intro e st y h; unfold f89.s2.inY at h; split at h <;> simp at h <;> subst h <;> rfl)
    f89.s2.desOK (f89.s2.lok K) (f89.s2 K) (f89.s2.eq K) K
theorem f89.s0.eq (K : Nat) (rec : f89.Ty2 → Option (f89.Ty3)) (x : f89.Ty2) : f89.s0 K rec x = roundL (getA tys) (tabSp (f89.tab K)) 69 2 (f89.lp K) 400 f89.s0.b f89.s0.h f89.s0.ho f89.s0.shp f89.s0.inX f89.s0.inY rec x := by kernel_rfl
theorem f89.s0.lok (K : Nat) : LoopsOK Try.prog 69 2 (f89.lp K) f89.s0.b := loops_ok (by
  have h : loopsIn (f89.lp K) f89.s0.b = [(2, f89.s2.b)] := by kernel_rfl
  rw [h]
  intro p hp
  simp only [List.mem_cons, List.not_mem_nil, or_false] at hp
  rcases hp with rfl
  · exact ⟨_, rfl, (f89.s2.ok K)⟩)
theorem f89.s0.ok (K : Nat) : SummOK Try.prog 69 2 (summOf (iter (f89.s0 K) K) f89.s0.inX f89.s0.des) f89.s0.b :=
  loop_ok mix tys_ok (f89.tabOK K) (h := f89.s0.h) (ho := f89.s0.ho) (shp := f89.s0.shp) (inX := f89.s0.inX) (des := f89.s0.des) (out := f89.s0.out) (inY := f89.s0.inY) (fuel := 400)
    (by intro st x h; unfold f89.s0.inX at h; split at h <;> simp at h; subst h; rfl)
    (by intro e st y h; unfold f89.s0.inY at h; split at h <;> simp at h <;> subst h <;> rfl)
    f89.s0.desOK (f89.s0.lok K) (f89.s0 K) (f89.s0.eq K) K
theorem f89.loops (K : Nat) : LoopsOK Try.prog 69 2 (f89.lp K) f89.c := loops_ok (by
  have h : loopsIn (f89.lp K) f89.c = [(0, f89.s0.b), (2, f89.s2.b)] := by kernel_rfl
  rw [h]
  intro p hp
  simp only [List.mem_cons, List.not_mem_nil, or_false] at hp
  rcases hp with rfl | rfl
  · exact ⟨_, rfl, (f89.s0.ok K)⟩
  · exact ⟨_, rfl, (f89.s2.ok K)⟩)
def f89.T (K : Nat) (a0 : Nat) (a1 : List Int) (m0_0 : Nat) (m0_1 : List Int) : Option (f89.Ty4) :=
  (iter (f89.s0 K) K (a0, 0, 0, m0_0, m0_1, a1, [0, 0, 0, 0], 0, [], [0, 0, 0, 0])).bind fun y26 =>
  some (y26.1, y26.2.2.2.2.2.2, y26.2.1, y26.2.2.1, y26.2.2.2.2.1, y26.2.2.2.2.2.1)
def f89.F (K : Nat) (x : f89.Ty5) : Option (f89.Ty4) := f89.T K x.1 x.2.1 x.2.2.1 x.2.2.2
def f89.av (x : f89.Ty5) : List VV := [.vw true 0 0 x.1 1, .agg [.ints .u64 4 x.2.1]]
def f89.bl (x : f89.Ty5) : List (Nat × Blk) := [(0, ([.ints .u8 x.2.2.1 x.2.2.2], 0, .ro))]
def f89.inA : VS → Option (f89.Ty5)
  | ⟨[(0, .vw true 0 0 a0 1), (1, .agg [.ints .u64 4 a1])], [(0, ([.ints .u8 m0_0 m0_1], 0, .ro))], 2⟩ => some (a0, a1, m0_0, m0_1)
  | _ => none
def f89.o0 (y : f89.Ty4) : VS := ⟨[(0, .tup [.vec 2 0 y.1 3, .agg [.ints .u64 4 y.2.1]])], [(0, ([.ints .u8 y.2.2.1 y.2.2.2.1], 0, .ro)), (2, ([.ints .u8 y.2.2.2.2.1 y.2.2.2.2.2], 5, .vec 3))], 4⟩
def f89.des : ∀ α : Type, (f89.Ty4) → (VS → Option α) → Option α := (dv1 f89.o0)
def f89.out : f89.Ty4 → VS := f89.o0
def f89.inR : VS → Option (f89.Ty4)
  | ⟨[(0, .tup [.vec 2 0 y_0 3, .agg [.ints .u64 4 y_1]])], [(0, ([.ints .u8 z0_0 z0_1], 0, .ro)), (2, ([.ints .u8 z2_0 z2_1], 5, .vec 3))], 4⟩ => some (y_0, y_1, z0_0, z0_1, z2_0, z2_1)
  | _ => none
noncomputable def f89.E (K : Nat) : Entry := genE 2 f89.inA (f89.F K) f89.des
theorem f89.eq (K : Nat) (x : f89.Ty5) : f89.F K x = xrun (getA tys) (tabSp (f89.tab K)) Try.f89.ntmps 2 (f89.lp K) 400 f89.c ⟨initL 0 (f89.av x), f89.bl x, 2⟩ (contF (getA tys) 2 Try.f89.results.toList f89.inR) := by kernel_rfl
theorem f89.ok (K : Nat) : EntryOK Try.prog 89 (f89.E K) :=
  gen_ok mix tys_ok (f89.tabOK K) Try.func89 (by kernel_rfl : Try.f89.body = some f89.c) (by kernel_rfl) (f89.loops K) (av := f89.av) (bl := f89.bl) (out := f89.out) (fuel := 400)
    (by intro s x h; unfold f89.inA at h; split at h <;> simp at h; subst h; rfl) (fun _ => Nat.le_of_ble_eq_true rfl)
    (by intro s y h; unfold f89.inR at h; split at h <;> simp at h <;> subst h <;> rfl) (fun _ _ _ => rfl) (f89.eq K)
end Go.Proofs

namespace Go.Proofs
open Go.VM
theorem shr_u8 (c k : Nat) (hk : k ≤ 8) : shiftI .shr .u8 (c : Int) (k : Int) = ((c / 2 ^ k : Nat) : Int) := by
  simp only [shiftI, IntKind.bits, Int.toNat_natCast]
  rw [Nat.min_eq_left hk]
  exact fdiv_nat c k
theorem twice_div (V M b : Nat) (hM : 0 < M) (hb : b < 2) : (2 * V + b) / M = 2 * (V / M) + (if M ≤ 2 * (V % M) + b then 1 else 0) ∧ (2 * V + b) % M = if M ≤ 2 * (V % M) + b then 2 * (V % M) + b - M else 2 * (V % M) + b := by
  have h1 := Nat.mod_add_div V M
  have h2 := Nat.mod_lt V hM
  by_cases h : M ≤ 2 * (V % M) + b
  · rw [if_pos h, if_pos h]
    refine div_mod_of ?_ (by omega)
    rw [Nat.mul_add, Nat.mul_one, show M * (2 * (V / M)) = 2 * (M * (V / M)) by rw [Nat.mul_left_comm]]
    omega
  · rw [if_neg h, if_neg h]
    refine div_mod_of ?_ (by omega)
    rw [Nat.add_zero, show M * (2 * (V / M)) = 2 * (M * (V / M)) by rw [Nat.mul_left_comm]]
    omega
theorem f89.bit (n t6 i g k L M c : Nat) (l z4 : List Int) (z3 : List Int) (t4 : Nat) (hM : M < 2 ^ 256) (hL : L < M) (hg : g < 128) (hk : k ≤ 7) (hi : i < n) (hn : n < 1000000000) (hl : l.length = n) (hc : List.getD l i 0 = (c : Int)) (hc8 : c < 256) (rec : _ → _) :
    f89.s2 100000 rec (n, t6, (i : Int), (g : Int), (k : Int), n, l, num M, z3, t4, z4, num L) =
      rec (n, t6, (i : Int), ((2 * g + (if M ≤ 2 * L + c / 2 ^ k % 2 then 1 else 0) : Nat) : Int), (k : Int) - 1, n, l, num M, z3, t4, z4, num (if M ≤ 2 * L + c / 2 ^ k % 2 then 2 * L + c / 2 ^ k % 2 - M else 2 * L + c / 2 ^ k % 2)) := by
  have hL2 : L < 2 ^ 256 := by omega
  have mL := mod_self_of hL2
  have hb : c / 2 ^ k % 2 < 2 := Nat.mod_lt _ (by decide)
  obtain ⟨b, hbe⟩ : ∃ b, b = c / 2 ^ k % 2 := ⟨_, rfl⟩
  have hq : c / 2 ^ k ≤ c := Nat.div_le_self _ _
  simp only [f89.s2, f89.s2t, f73.all, bind_s, mL, Nat.zero_add, Int.toNat_natCast, hc, shr_u8 c k (by omega)]
  have w1 : IntKind.wrap .u64 ((c / 2 ^ k : Nat) : Int) = ((c / 2 ^ k : Nat) : Int) := wrap_u _ (Int.natCast_nonneg _) (by omega)
  have w2 : Int.tmod ((c / 2 ^ k : Nat) : Int) 2 = ((c / 2 ^ k % 2 : Nat) : Int) := rfl
  have w3 : IntKind.wrap .i64 (2 * (g : Int)) = ((2 * g : Nat) : Int) := by rw [wrap_i _ (by omega) (by omega)]; omega
  have w4 : IntKind.wrap .i64 (((2 * g : Nat) : Int) + 1) = ((2 * g + 1 : Nat) : Int) := by rw [wrap_i _ (by omega) (by omega)]; rfl
  have w5 : IntKind.wrap .i64 ((k : Int) - 1) = (k : Int) - 1 := wrap_i _ (by omega) (by omega)
  rw [decide_eq_true (show (k : Int) ≥ 0 by omega), cond_t, decide_eq_true (show 0 ≤ (i : Int) ∧ (i : Int) < (n : Int) by omega), cond_t, show Nat.blt i n = true from by simp [Nat.blt_eq, hi], cond_t, cond_t,
    w1, w2, ← hbe, f87.spec 100000 b (by omega), bind_s, f73.all, bind_s, w3, w4, w5]
  rw [← hbe] at hb
  have hS : num (L + L + b) = num (2 * L + b) := by rw [show L + L = 2 * L by omega]
  simp only []
  rw [hS]
  by_cases hov : 2 ^ 256 ≤ 2 * L
  · have e1 : (L + L) / 2 ^ 256 = 1 := by omega
    have e2 : f72.F 100000 (num (2 * L + b), num M) = some (num (2 * L + b - M), ((if (2 * L + b) % 2 ^ 256 < M then 1 else 0 : Nat) : Int)) := by
      rw [← num_mod (2 * L + b), f72.spec 100000 _ _ (Nat.mod_lt _ (Nat.two_pow_pos 256)) hM (by decide), show (2 * L + b) % 2 ^ 256 + 2 ^ 256 - M = 2 * L + b - M by omega]
    rw [e1, show (((1 : Nat) : Int) == 1) = true from rfl, cond_t, e2, bind_s, if_pos (show M ≤ 2 * L + b by omega), if_pos (show M ≤ 2 * L + b by omega)]
  · have e1 : (L + L) / 2 ^ 256 = 0 := by omega
    have hS2 : 2 * L + b < 2 ^ 256 := by omega
    rw [e1, show (((0 : Nat) : Int) == 1) = false from rfl, cond_f, f71.spec 100000 _ _ hS2 hM (by decide), bind_s, cmp_ge]
    by_cases h : M ≤ 2 * L + b
    · rw [decide_eq_true h, cond_t, f72.spec 100000 _ _ hS2 hM (by decide), bind_s, if_pos h, if_pos h]
      simp only []
      rw [show 2 * L + b + 2 ^ 256 - M = 2 * L + b - M + 2 ^ 256 by omega, num_add_mod]
    · rw [decide_eq_false h, cond_f, if_neg h, if_neg h, Nat.add_zero]
theorem f89.byte (n t6 i M X c : Nat) (l z4 z3 : List Int) (t4 : Nat) (hM : M < 2 ^ 256) (hX : X < M) (hi : i < n) (hn : n < 1000000000) (hl : l.length = n) (hc : List.getD l i 0 = (c : Int)) (hc8 : c < 256) :
    iter (f89.s2 100000) 100000 (n, t6, (i : Int), 0, 7, n, l, num M, z3, t4, z4, num X) = some (n, t6, (i : Int), (((256 * X + c) / M : Nat) : Int), n, l, num M, z3, t4, z4, num ((256 * X + c) % M)) := by
  have hM0 : 0 < M := by omega
  obtain ⟨V, hV⟩ : ∃ V : Nat → Nat, V = fun j => X * 2 ^ j + c / 2 ^ (8 - j) := ⟨_, rfl⟩
  have hstep : ∀ j, j < 8 → V (j + 1) = 2 * V j + c / 2 ^ (7 - j) % 2 := by
    intro j hj
    simp only [hV]
    have h1 : c / 2 ^ (8 - j) = c / 2 ^ (7 - j) / 2 := by rw [Nat.div_div_eq_div_mul, ← Nat.pow_succ]; congr 2; omega
    rw [h1, show 8 - (j + 1) = 7 - j by omega, Nat.pow_succ]
    have := Nat.mod_add_div (c / 2 ^ (7 - j)) 2
    have h2 : X * (2 ^ j * 2) = 2 * (X * 2 ^ j) := by rw [← Nat.mul_assoc, Nat.mul_comm]
    omega
  have hsmall : ∀ j, j ≤ 8 → V j / M < 2 ^ j := by
    intro j hj
    have h1 : c / 2 ^ (8 - j) < 2 ^ j := by
      rw [Nat.div_lt_iff_lt_mul (Nat.two_pow_pos _), ← Nat.pow_add, show j + (8 - j) = 8 by omega]; exact hc8
    rw [Nat.div_lt_iff_lt_mul hM0]
    simp only [hV]
    have h2 : (X + 1) * 2 ^ j ≤ M * 2 ^ j := Nat.mul_le_mul_right _ hX
    rw [Nat.add_mul, Nat.one_mul] at h2
    rw [Nat.mul_comm (2 ^ j) M]
    omega
  have key := iter_for (stp := f89.s2 100000) (N := 8) (fun j => (n, t6, (i : Int), ((V j / M : Nat) : Int), 7 - (j : Int), n, l, num M, z3, t4, z4, num (V j % M)))
    (y := some (n, t6, (i : Int), (((256 * X + c) / M : Nat) : Int), n, l, num M, z3, t4, z4, num ((256 * X + c) % M))) (fun j hj rec => by
      have hg : V j / M < 128 := Nat.lt_of_lt_of_le (hsmall j (by omega)) (Nat.le_trans (Nat.pow_le_pow_right (by decide) (show j ≤ 7 by omega)) (by decide))
      have := f89.bit n t6 i (V j / M) (7 - j) (V j % M) M c l z4 z3 t4 hM (Nat.mod_lt _ hM0) hg (by omega) hi hn hl hc hc8 rec
      obtain ⟨d1, d2⟩ := twice_div (V j) M (c / 2 ^ (7 - j) % 2) hM0 (Nat.mod_lt _ (by decide))
      rw [show ((7 - j : Nat) : Int) = 7 - (j : Int) by omega] at this
      rw [this, hstep j hj, d1, d2, show (7 : Int) - (j : Int) - 1 = 7 - ((j + 1 : Nat) : Int) by omega])
    (fun rec => by
      simp only [f89.s2, f89.s2t]
      rw [decide_eq_false (show ¬ (7 : Int) - ((8 : Nat) : Int) ≥ 0 by decide), cond_f]
      have : V 8 = 256 * X + c := by simp only [hV]; rw [Nat.sub_self, Nat.pow_zero, Nat.div_one, Nat.mul_comm]
      rw [this]) (show 8 < 100000 by decide)
  have v0 : V 0 = X := by
    simp only [hV]
    rw [Nat.pow_zero, Nat.mul_one, Nat.sub_zero, Nat.div_eq_of_lt (show c < 2 ^ 8 from hc8), Nat.add_zero]
  simp only [v0, Nat.div_eq_of_lt hX, Nat.mod_eq_of_lt hX] at key
  exact key
end Go.Proofs

namespace Go.Proofs
open Go.VM
def f86.T (K : Nat) (a0 : List Int) : Option (Bool) :=
  (f87.F K (List.getD a0 0 0)).bind fun y2 =>
  some (eqL 4 a0 y2 && true)
def f86.F (K : Nat) (x : List Int) : Option (Bool) := f86.T K x
def f86.av (x : List Int) : List VV := [.agg [.ints .u64 4 x]]
def f86.bl (_x : List Int) : List (Nat × Blk) := []
def f86.inA : VS → Option (List Int)
  | ⟨[(0, .agg [.ints .u64 4 a0])], [], 0⟩ => some a0
  | _ => none
def f86.o0 (y : Bool) : VS := ⟨[(0, .bool y)], [], 0⟩
def f86.inR : VS → Option (Bool)
  | ⟨[(0, .bool y)], [], 0⟩ => some y
  | _ => none
noncomputable def f86.E (K : Nat) : Entry := genE 0 f86.inA (f86.F K) (dv1 f86.o0)
theorem f86.ok (K : Nat) : EntryOK Try.prog 86 (f86.E K) := gen_ok mix tys_ok (tab_ok ((tab_cons (f87.ok K) tab_nil))) Try.func86 (c := bodyOf Try.f86) (by kernel_rfl) (by kernel_rfl) (loops_none (lp := lpNone) (by kernel_rfl)) (av := f86.av) (bl := f86.bl) (inR := f86.inR) (out := f86.o0) (fuel := 400)
  (by intro s x h; unfold f86.inA at h; split at h <;> simp at h; subst h; rfl) (fun _ => Nat.le_of_ble_eq_true rfl)
  (by intro s y h; unfold f86.inR at h; split at h <;> simp at h <;> subst h <;> rfl) (fun _ _ _ => rfl) (fun _ => by kernel_rfl)
end Go.Proofs

namespace Go.Proofs
open Go.VM
abbrev f88.Ty0 := Nat × Int × Int × Int × Nat × List Int
abbrev f88.Ty1 := Nat × Int × Nat × List Int
abbrev f88.Ty2 := Int × Nat × List Int
noncomputable def f88.c : Code := bodyOf Try.f88
def f88.s0t (K : Nat) (rec : f88.Ty0 → Option (f88.Ty2)) (t0 : Nat) (t1 : Int) (t5 : Int) (t6 : Int) (b0_0 : Nat) (b0_1 : List Int) : Option (f88.Ty2) :=
  bif (decide (t6 < ((t0 : Nat) : Int))) then
    bif decide (0 ≤ t6 ∧ t6 ≤ ((t0 : Nat) : Int)) then
      let v3 := 0 + (Int.toNat t6)
      let v4 := t0 - (Int.toNat t6)
      bif ((Nat.ble (v3 + v4) b0_0 && true) && true) then
        (f99.F K (v4, 8, v4, (subI b0_1 v3 v4))).bind fun y5 =>
        (f81.F K (t5, y5.1, t1)).bind fun y6 =>
        rec (t0, t1, y6.2, (IntKind.wrap .i64 (t6 + 8)), b0_0, b0_1)
      else
        none
    else
      none
  else
    some (t5, b0_0, b0_1)
def f88.s0 (K : Nat) (rec : f88.Ty0 → Option (f88.Ty2)) (x : f88.Ty0) : Option (f88.Ty2) := f88.s0t K rec x.1 x.2.1 x.2.2.1 x.2.2.2.1 x.2.2.2.2.1 x.2.2.2.2.2
noncomputable def f88.s0.b : Code := (findLoop 0 f88.c).getD .skip
def f88.s0.h : Hint := { lv := [0, 1, 5, 6] }
def f88.s0.ho : Hint := { lv := [5] }
def f88.s0.shp (x : f88.Ty0) : VS := ⟨[(0, .vw true 0 0 x.1 1), (1, .int .u64 x.2.1), (5, .int .u64 x.2.2.1), (6, .int .i64 x.2.2.2.1)], [(0, ([.ints .u8 x.2.2.2.2.1 x.2.2.2.2.2], 0, .ro))], 2⟩
def f88.s0.inX : VS → Option (f88.Ty0)
  | ⟨[(0, .vw true 0 0 t0 1), (1, .int .u64 t1), (5, .int .u64 t5), (6, .int .i64 t6)], [(0, ([.ints .u8 b0_0 b0_1], 0, .ro))], 2⟩ => some (t0, t1, t5, t6, b0_0, b0_1)
  | _ => none
def f88.s0.o0 (y : f88.Ty2) : VS := ⟨[(5, .int .u64 y.1)], [(0, ([.ints .u8 y.2.1 y.2.2], 0, .ro))], 2⟩
def f88.s0.des : ∀ α : Type, (f88.Ty2) → (Ex → VS → Option α) → Option α := (des1 (.exit 0) f88.s0.o0)
def f88.s0.out : f88.Ty2 → Ex × VS := (fun y => (.exit 0, f88.s0.o0 y))
theorem f88.s0.desOK : ∀ α y (k : Ex → VS → Option α), f88.s0.des α y k = k (f88.s0.out y).1 (f88.s0.out y).2 := (fun _ _ _ => rfl)
def f88.s0.inY : Ex → VS → Option (f88.Ty2)
  | .exit 0, ⟨[(5, .int .u64 t5)], [(0, ([.ints .u8 b0_0 b0_1], 0, .ro))], 2⟩ => some (t5, b0_0, b0_1)
  | _, _ => none
def f88.lp (K : Nat) : Nat → Option (Hint × Summ) := tabLp [(0, f88.s0.h, summOf (iter (f88.s0 K) K) f88.s0.inX f88.s0.des)]
noncomputable def f88.tab (K : Nat) : List (Nat × Entry) := [(99, (viewE [(0, .u8)] (f99.E K))), (81, (f81.E K))]
theorem f88.tabOK (K : Nat) : SpecOK Try.prog (tabSp (f88.tab K)) := tab_ok ((tab_cons (view_ok (f99.ok K)) (tab_cons (f81.ok K) tab_nil)))
theorem f88.s0.eq (K : Nat) (rec : f88.Ty0 → Option (f88.Ty2)) (x : f88.Ty0) : f88.s0 K rec x = roundL (getA tys) (tabSp (f88.tab K)) 30 2 (f88.lp K) 400 f88.s0.b f88.s0.h f88.s0.ho f88.s0.shp f88.s0.inX f88.s0.inY rec x := by kernel_rfl
theorem f88.s0.lok (K : Nat) : LoopsOK Try.prog 30 2 (f88.lp K) f88.s0.b := loops_ok (by
  have h : loopsIn (f88.lp K) f88.s0.b = [] := by kernel_rfl
  rw [h]; simp)
theorem f88.s0.ok (K : Nat) : SummOK Try.prog 30 2 (summOf (iter (f88.s0 K) K) f88.s0.inX f88.s0.des) f88.s0.b :=
  loop_ok mix tys_ok (f88.tabOK K) (h := f88.s0.h) (ho := f88.s0.ho) (shp := f88.s0.shp) (inX := f88.s0.inX) (des := f88.s0.des) (out := f88.s0.out) (inY := f88.s0.inY) (fuel := 400)
    (by intro st x h; unfold f88.s0.inX at h; split at h <;> simp at h; subst h; rfl)
    (by intro e st y h; unfold f88.s0.inY at h; split at h <;> simp at h <;> subst h <;> rfl)
    f88.s0.desOK (f88.s0.lok K) (f88.s0 K) (f88.s0.eq K) K
theorem f88.loops (K : Nat) : LoopsOK Try.prog 30 2 (f88.lp K) f88.c := loops_ok (by
  have h : loopsIn (f88.lp K) f88.c = [(0, f88.s0.b)] := by kernel_rfl
  rw [h]
  intro p hp
  simp only [List.mem_cons, List.not_mem_nil, or_false] at hp
  rcases hp with rfl
  · exact ⟨_, rfl, (f88.s0.ok K)⟩)
def f88.T (K : Nat) (a0 : Nat) (a1 : Int) (m0_0 : Nat) (m0_1 : List Int) : Option (f88.Ty2) :=
  (iter (f88.s0 K) K (a0, a1, 0, 0, m0_0, m0_1)).bind fun y8 =>
  some (y8.1, y8.2.1, y8.2.2)
def f88.F (K : Nat) (x : f88.Ty1) : Option (f88.Ty2) := f88.T K x.1 x.2.1 x.2.2.1 x.2.2.2
def f88.av (x : f88.Ty1) : List VV := [.vw true 0 0 x.1 1, .int .u64 x.2.1]
def f88.bl (x : f88.Ty1) : List (Nat × Blk) := [(0, ([.ints .u8 x.2.2.1 x.2.2.2], 0, .ro))]
def f88.inA : VS → Option (f88.Ty1)
  | ⟨[(0, .vw true 0 0 a0 1), (1, .int .u64 a1)], [(0, ([.ints .u8 m0_0 m0_1], 0, .ro))], 2⟩ => some (a0, a1, m0_0, m0_1)
  | _ => none
def f88.o0 (y : f88.Ty2) : VS := ⟨[(0, .int .u64 y.1)], [(0, ([.ints .u8 y.2.1 y.2.2], 0, .ro))], 2⟩
def f88.des : ∀ α : Type, (f88.Ty2) → (VS → Option α) → Option α := (dv1 f88.o0)
def f88.out : f88.Ty2 → VS := f88.o0
def f88.inR : VS → Option (f88.Ty2)
  | ⟨[(0, .int .u64 y)], [(0, ([.ints .u8 z0_0 z0_1], 0, .ro))], 2⟩ => some (y, z0_0, z0_1)
  | _ => none
noncomputable def f88.E (K : Nat) : Entry := genE 2 f88.inA (f88.F K) f88.des
theorem f88.eq (K : Nat) (x : f88.Ty1) : f88.F K x = xrun (getA tys) (tabSp (f88.tab K)) Try.f88.ntmps 2 (f88.lp K) 400 f88.c ⟨initL 0 (f88.av x), f88.bl x, 2⟩ (contF (getA tys) 2 Try.f88.results.toList f88.inR) := by kernel_rfl
theorem f88.ok (K : Nat) : EntryOK Try.prog 88 (f88.E K) :=
  gen_ok mix tys_ok (f88.tabOK K) Try.func88 (by kernel_rfl : Try.f88.body = some f88.c) (by kernel_rfl) (f88.loops K) (av := f88.av) (bl := f88.bl) (out := f88.out) (fuel := 400)
    (by intro s x h; unfold f88.inA at h; split at h <;> simp at h; subst h; rfl) (fun _ => Nat.le_of_ble_eq_true rfl)
    (by intro s y h; unfold f88.inR at h; split at h <;> simp at h <;> subst h <;> rfl) (fun _ _ _ => rfl) (f88.eq K)
end Go.Proofs

namespace Go.Proofs
open Go.VM
abbrev f56.Ty0 := List Int × List Int × List Int
def f56.T (K : Nat) (a0 : List Int) (a1 : List Int) (a2 : List Int) : Option (List Int × Int) :=
  bif (eqL 4 a2 [0, 0, 0, 0] && true) then
    some (a2, 1)
  else
    (f85.F K (0, a1, 0, [])).bind fun y2 =>
    bif ((Nat.ble (0 + y2.1) y2.2.2.2.1 && true) && true) then
      (f85.F K (y2.1, a0, y2.1, (subI y2.2.2.2.2 0 y2.1))).bind fun y3 =>
      (f86.F K a2).bind fun y4 =>
      bif y4 then
        bif ((Nat.ble (0 + y3.1) y3.2.2.2.1 && true) && true) then
          (f88.F K (y3.1, (List.getD a2 0 0), y3.1, (subI y3.2.2.2.2 0 y3.1))).bind fun y6 =>
          (f87.F K y6.1).bind fun y7 =>
          some (y7, 0)
        else
          none
      else
        bif ((Nat.ble (0 + y3.1) y3.2.2.2.1 && true) && true) then
          (f89.F K (y3.1, a2, y3.1, (subI y3.2.2.2.2 0 y3.1))).bind fun y8 =>
          some (y8.2.1, 0)
        else
          none
    else
      none
def f56.F (K : Nat) (x : f56.Ty0) : Option (List Int × Int) := f56.T K x.1 x.2.1 x.2.2
def f56.av (x : f56.Ty0) : List VV := [.agg [.ints .u64 4 x.1], .agg [.ints .u64 4 x.2.1], .agg [.ints .u64 4 x.2.2]]
def f56.bl (_x : f56.Ty0) : List (Nat × Blk) := []
def f56.inA : VS → Option (f56.Ty0)
  | ⟨[(0, .agg [.ints .u64 4 a0]), (1, .agg [.ints .u64 4 a1]), (2, .agg [.ints .u64 4 a2])], [], 0⟩ => some (a0, a1, a2)
  | _ => none
def f56.o0 (y : List Int × Int) : VS := ⟨[(0, .tup [.agg [.ints .u64 4 y.1], .int .i64 y.2])], [], 0⟩
def f56.inR : VS → Option (List Int × Int)
  | ⟨[(0, .tup [.agg [.ints .u64 4 y_0], .int .i64 y_1])], [], 0⟩ => some (y_0, y_1)
  | _ => none
noncomputable def f56.E (K : Nat) : Entry := genE 0 f56.inA (f56.F K) (dv1 f56.o0)
theorem f56.ok (K : Nat) : EntryOK Try.prog 56 (f56.E K) := gen_ok mix tys_ok (sp := tabSp [(85, (viewE [(0, .u8)] (f85.E K))), (86, (f86.E K)), (88, (viewE [(0, .u8)] (f88.E K))), (87, (f87.E K)), (89, (viewE [(0, .u8)] (f89.E K)))]) (tab_ok ((tab_cons (view_ok (f85.ok K)) (tab_cons (f86.ok K) (tab_cons (view_ok (f88.ok K)) (tab_cons (f87.ok K) (tab_cons (view_ok (f89.ok K)) tab_nil))))))) Try.func56 (c := bodyOf Try.f56) (by kernel_rfl) (by kernel_rfl) (loops_none (lp := lpNone) (by kernel_rfl)) (av := f56.av) (bl := f56.bl) (inR := f56.inR) (out := f56.o0) (fuel := 400)
  (by intro s x h; unfold f56.inA at h; split at h <;> simp at h; subst h; rfl) (fun _ => Nat.le_of_ble_eq_true rfl)
  (by intro s y h; unfold f56.inR at h; split at h <;> simp at h <;> subst h <;> rfl) (fun _ _ _ => rfl) (fun _ => by kernel_rfl)
end Go.Proofs

namespace Go.Proofs
open Go.VM
theorem tv_take_succ (l : List Int) (i : Nat) (h : i < l.length) : tv (l.take (i + 1)) = 256 * tv (l.take i) + (List.getD l i 0).toNat := by
  rw [List.take_add_one, List.getElem?_eq_getElem h, Option.toList_some, tv_snoc]
  simp [h]
theorem byte_of (Q G : Nat) (h : G < 256) : (256 * Q + G) / 256 = Q ∧ (256 * Q + G) % 256 = G := by omega
theorem f89.spec (n M : Nat) (l : List Int) (hM0 : 0 < M) (hM : M < 2 ^ 256) (hn : n < 90000) (hl : l.length = n) (ho : octets l) :
    f89.F 100000 (n, num M, n, l) = some (n, num (tv l % M), n, l, n, be n (tv l / M)) := by
  have hz : ([0, 0, 0, 0] : List Int) = num 0 := rfl
  have key := iter_for (stp := f89.s0 100000) (N := n) (fun i => (n, i, (i : Int), n, l, num M, ([0, 0, 0, 0] : List Int), i, be i (tv (l.take i) / M), num (tv (l.take i) % M)))
    (y := some (n, n, l, ([0, 0, 0, 0] : List Int), n, be n (tv l / M), num (tv l % M))) (fun i hi rec => by
      simp only [f89.s0, f89.s0t]
      have hx := ho (List.getD l i 0) (by rw [List.getD_eq_getElem?_getD, List.getElem?_eq_getElem (by omega)]; exact List.getElem_mem _)
      obtain ⟨c, hc⟩ : ∃ c : Nat, List.getD l i 0 = (c : Int) := ⟨(List.getD l i 0).toNat, by omega⟩
      have hc8 : c < 256 := by omega
      obtain ⟨T, hT⟩ : ∃ T, T = tv (l.take i) := ⟨_, rfl⟩
      have hX := Nat.mod_lt T hM0
      have w2 : IntKind.wrap .i64 ((i : Int) + 1) = ((i + 1 : Nat) : Int) := by rw [wrap_i _ (by omega) (by omega)]; rfl
      have hd := Nat.mod_add_div T M
      have hgo : (256 * (T % M) + c) / M < 256 := by
        rw [Nat.div_lt_iff_lt_mul hM0]; omega
      have e1 : (256 * T + c) / M = 256 * (T / M) + (256 * (T % M) + c) / M ∧ (256 * T + c) % M = (256 * (T % M) + c) % M := by
        have h3 : 256 * T + c = M * (256 * (T / M)) + (256 * (T % M) + c) := by rw [Nat.mul_left_comm]; omega
        rw [h3, Nat.mul_add_div hM0, Nat.mul_add_mod]
        exact ⟨rfl, rfl⟩
      have e2 : be (i + 1) ((256 * T + c) / M) = be i (T / M) ++ [(((256 * (T % M) + c) / M : Nat) : Int)] := by
        rw [be, e1.1, (byte_of _ _ hgo).1, (byte_of _ _ hgo).2]
      have e3 : tv (l.take (i + 1)) = 256 * T + c := by rw [tv_take_succ l i (by omega), hc, hT]; rfl
      have w3 : IntKind.wrap .u8 (((256 * (T % M) + c) / M : Nat) : Int) = (((256 * (T % M) + c) / M : Nat) : Int) := wrap_b _ (Int.natCast_nonneg _) (Int.ofNat_lt.2 hgo)
      rw [decide_eq_true (show (i : Int) < (n : Int) by omega), cond_t, ← hT, f89.byte n i i M (T % M) c l _ _ i hM hX hi (by omega) hl hc hc8, bind_s]
      simp only []
      rw [ble_true (Nat.le_refl i), Bool.true_and, fitB_true (by omega), cond_t, padT_self _ (be_length i _), w2, w3, e3, e2, e1.2])
    (fun rec => by
      simp only [f89.s0, f89.s0t]
      rw [decide_eq_false (Int.lt_irrefl _), cond_f, List.take_of_length_le (by omega)]) (show n < 100000 by omega)
  have hstart : tv (l.take 0) = 0 := by rw [List.take_zero]; rfl
  simp only [hstart, Nat.zero_div, Nat.zero_mod] at key
  simp only [f89.F, f89.T]
  have key' : iter (f89.s0 100000) 100000 (n, 0, 0, n, l, num M, [0, 0, 0, 0], 0, [], [0, 0, 0, 0]) = some (n, n, l, ([0, 0, 0, 0] : List Int), n, be n (tv l / M), num (tv l % M)) := key
  rw [key', bind_s]
theorem f86.spec (A : Nat) (hA : A < 2 ^ 256) : f86.F 100000 (num A) = some (decide (A < 2 ^ 64)) := by
  have e0 : List.getD (num A) 0 0 = ((A % 18446744073709551616 : Nat) : Int) := by
    have : (num A).getD 0 0 = ((A / 2 ^ (64 * 0) % 2 ^ 64 : Nat) : Int) := getD_words (by decide)
    rw [this, Nat.mul_zero, Nat.pow_zero, Nat.div_one]
  simp only [f86.F, f86.T, e0]
  rw [f87.spec _ _ (Nat.mod_lt _ (by decide)), bind_s, eqN A _ hA (by omega), Bool.and_true]
  congr 1
  by_cases h : A < 2 ^ 64
  · rw [decide_eq_true h, decide_eq_true (by omega)]
  · rw [decide_eq_false h, decide_eq_false (by omega)]
end Go.Proofs

namespace Go.Proofs
open Go.VM
theorem f99.spec (n : Nat) (l : List Int) (hl : l.length = n) (ho : octets l) (h8 : 8 ≤ n) (hn : n < 90000) : f99.F 100000 (n, 8, n, l) = some (((tv (l.take 8) : Nat) : Int), 0, n, l) := by
  have ht := told_at l 0 ho (by omega) (by omega)
  rw [List.drop_zero] at ht
  simp only [f99.F, f99.T]
  rw [decide_eq_false (show ¬ (8 : Int) < 0 by decide), cond_f, decide_eq_false (show ¬ (8 : Int) > 8 by decide), cond_f, decide_eq_false (show ¬ (8 : Int) > (n : Int) by omega), cond_f, decide_eq_true (show (0 : Int) ≤ 8 ∧ (8 : Int) ≤ (n : Int) by omega), Bool.true_and, cond_t]
  rw [show Int.toNat 8 = 8 from rfl, Nat.zero_add, ble_true h8, Bool.true_and, Bool.true_and, cond_t, ht, bind_s]
theorem f88.spec (k M : Nat) (l : List Int) (hM0 : 0 < M) (hM : M < 18446744073709551616) (hk : k < 10000) (hl : l.length = 8 * k) (ho : octets l) :
    f88.F 100000 (8 * k, (M : Int), 8 * k, l) = some (((tv l % M : Nat) : Int), 8 * k, l) := by
  have key := iter_for (stp := f88.s0 100000) (N := k) (fun j => (8 * k, (M : Int), ((tv (l.take (8 * j)) % M : Nat) : Int), ((8 * j : Nat) : Int), 8 * k, l)) (y := some (((tv l % M : Nat) : Int), 8 * k, l)) (fun j hj rec => by
      simp only [f88.s0, f88.s0t]
      obtain ⟨T, hT⟩ : ∃ T, T = tv (l.take (8 * j)) := ⟨_, rfl⟩
      have hlt := Nat.mod_lt T hM0
      have hlen : ((l.drop (8 * j)).take (8 * k - 8 * j)).length = 8 * k - 8 * j := by simp; omega
      have hoc : octets ((l.drop (8 * j)).take (8 * k - 8 * j)) := fun x hx => ho x (List.mem_of_mem_drop (List.mem_of_mem_take hx))
      have hw : ((l.drop (8 * j)).take (8 * k - 8 * j)).take 8 = (l.drop (8 * j)).take 8 := by rw [List.take_take, Nat.min_eq_left (by omega)]
      have l8 : ((l.drop (8 * j)).take 8).length = 8 := by simp; omega
      have b8 := tv_lt 8 _ l8 (fun x hx => ho x (List.mem_of_mem_drop (List.mem_of_mem_take hx)))
      have e3 : tv (l.take (8 * (j + 1))) = T * 18446744073709551616 + tv ((l.drop (8 * j)).take 8) := by
        rw [show 8 * (j + 1) = 8 * j + 8 by omega, List.take_add, tv_append, l8, hT]
      have w2 : IntKind.wrap .i64 (((8 * j : Nat) : Int) + 8) = ((8 * (j + 1) : Nat) : Int) := by rw [wrap_i _ (by omega) (by omega)]; omega
      rw [decide_eq_true (show ((8 * j : Nat) : Int) < ((8 * k : Nat) : Int) by omega), cond_t, decide_eq_true (show (0 : Int) ≤ ((8 * j : Nat) : Int) ∧ ((8 * j : Nat) : Int) ≤ ((8 * k : Nat) : Int) by omega), cond_t, Int.toNat_natCast, Nat.zero_add,
        ble_true (show 8 * j + (8 * k - 8 * j) ≤ 8 * k by omega), Bool.true_and, Bool.true_and, cond_t, subI_cut l _ _ (by omega), f99.spec _ _ hlen hoc (by omega) (by omega), bind_s, hw, ← hT]
      simp only []
      rw [f81.spec 100000 _ _ M hM hlt b8 (by decide), bind_s, w2, e3, mod_step])
    (fun rec => by
      simp only [f88.s0, f88.s0t]
      rw [decide_eq_false (Int.lt_irrefl _), cond_f, List.take_of_length_le (by omega)]) (show k < 100000 by omega)
  simp only [f88.F, f88.T]
  have hstart : tv (l.take (8 * 0)) = 0 := by rw [Nat.mul_zero, List.take_zero]; rfl
  simp only [hstart, Nat.zero_mod] at key
  have key' : iter (f88.s0 100000) 100000 (8 * k, (M : Int), 0, 0, 8 * k, l) = some (((tv l % M : Nat) : Int), 8 * k, l) := key
  rw [key', bind_s]
theorem f56.spec (L H M : Nat) (hL : L < 2 ^ 256) (hH : H < 2 ^ 256) (hM : M < 2 ^ 256) : f56.F 100000 (num L, num H, num M) = some (if M = 0 then (num 0, 1) else (num ((H * 2 ^ 256 + L) % M), 0)) := by
  have hz : ([0, 0, 0, 0] : List Int) = num 0 := rfl
  have p0 : (0 : Nat) < 2 ^ 256 := by decide
  simp only [f56.F, f56.T, hz, eqN M 0 hM p0, Bool.and_true]
  by_cases h0 : M = 0
  · rw [decide_eq_true h0, cond_t, if_pos h0, h0]
  · have hM0 : 0 < M := by omega
    have hlen : (be 32 H ++ be 32 L).length = 64 := by rw [List.length_append, be_length, be_length]
    have hoc : octets (be 32 H ++ be 32 L) := octets_append (be_octets _ _) (be_octets _ _)
    have htv : tv (be 32 H ++ be 32 L) = H * 2 ^ 256 + L := by
      rw [tv_append, tv_be, tv_be, be_length, pow_bytes, show 8 * 32 = 256 from rfl, Nat.mod_eq_of_lt hH, Nat.mod_eq_of_lt hL]
    rw [decide_eq_false h0, cond_f, if_neg h0, f85.spec 0 H [] rfl (by decide), bind_s]
    simp only [Nat.zero_add, List.nil_append]
    rw [ble_true (Nat.le_refl 32), cond_t, subI_self _ (be_length 32 H), f85.spec 32 L _ (be_length 32 H) (by decide), bind_s, f86.spec M hM, bind_s]
    simp only [Nat.zero_add]
    by_cases hm : M < 2 ^ 64
    · have g0 : List.getD (num M) 0 0 = (M : Int) := by
        have : (num M).getD 0 0 = ((M / 2 ^ (64 * 0) % 2 ^ 64 : Nat) : Int) := getD_words (by decide)
        rw [this, Nat.mul_zero, Nat.pow_zero, Nat.div_one, Nat.mod_eq_of_lt hm]
      have hw := f88.spec 8 M (be 32 H ++ be 32 L) hM0 hm (by decide) hlen hoc
      rw [decide_eq_true hm, cond_t, ble_true (Nat.le_refl (32 + 32)), cond_t, g0, subI_self _ hlen]
      rw [show (32 + 32 : Nat) = 8 * 8 from rfl, hw, bind_s, htv, f87.spec _ _ (by have := Nat.mod_lt (H * 2 ^ 256 + L) hM0; omega), bind_s]
    · rw [decide_eq_false hm, cond_f, ble_true (Nat.le_refl (32 + 32)), cond_t, subI_self _ hlen]
      rw [show (32 + 32 : Nat) = 64 from rfl, f89.spec 64 M _ hM0 hM (by decide) hlen hoc, bind_s, htv]
end Go.Proofs

namespace Go.Proofs
open Go.VM
abbrev f75.Ty0 := Nat × Nat × List Int × Nat × List Int
abbrev f75.Ty1 := Nat × Int × Int × Nat × List Int
def f75.T (K : Nat) (a0 : Nat) (a1 : Int) (a2 : Int) (m0_0 : Nat) (m0_1 : List Int) : Option (f75.Ty0) :=
  (f96.F K (a1, (minE a2 8))).bind fun y1 =>
  alt (fun y2 =>
    bif ((Nat.ble (0 + a0) m0_0 && true) && true) then
      (f95.F K (a0, 0, a0, (subI m0_1 0 a0), 0, [])).bind fun y4 =>
      some (y4.1, m0_0, m0_1, y4.2.2.2.2.2.1, y4.2.2.2.2.2.2)
    else
      none) (fun y3 =>
    bif ((Nat.ble (0 + a0) m0_0 && true) && ((Nat.ble (0 + y3.1) y3.2.1 && true) && true)) then
      (f95.F K (a0, y3.1, a0, (subI m0_1 0 a0), y3.1, (subI y3.2.2 0 y3.1))).bind fun y5 =>
      some (y5.1, m0_0, m0_1, y5.2.2.2.2.2.1, y5.2.2.2.2.2.2)
    else
      none) y1
def f75.F (K : Nat) (x : f75.Ty1) : Option (f75.Ty0) := f75.T K x.1 x.2.1 x.2.2.1 x.2.2.2.1 x.2.2.2.2
def f75.av (x : f75.Ty1) : List VV := [.vw true 0 0 x.1 1, .int .u64 x.2.1, .int .i64 x.2.2.1]
def f75.bl (x : f75.Ty1) : List (Nat × Blk) := [(0, ([.ints .u8 x.2.2.2.1 x.2.2.2.2], 0, .ro))]
def f75.inA : VS → Option (f75.Ty1)
  | ⟨[(0, .vw true 0 0 a0 1), (1, .int .u64 a1), (2, .int .i64 a2)], [(0, ([.ints .u8 m0_0 m0_1], 0, .ro))], 2⟩ => some (a0, a1, a2, m0_0, m0_1)
  | _ => none
def f75.o0 (y : f75.Ty0) : VS := ⟨[(0, .vec 2 0 y.1 3)], [(0, ([.ints .u8 y.2.1 y.2.2.1], 0, .ro)), (2, ([.ints .u8 y.2.2.2.1 y.2.2.2.2], 5, .vec 3))], 4⟩
def f75.inR : VS → Option (f75.Ty0)
  | ⟨[(0, .vec 2 0 y 3)], [(0, ([.ints .u8 z0_0 z0_1], 0, .ro)), (2, ([.ints .u8 z2_0 z2_1], 5, .vec 3))], 4⟩ => some (y, z0_0, z0_1, z2_0, z2_1)
  | _ => none
noncomputable def f75.E (K : Nat) : Entry := genE 2 f75.inA (f75.F K) (dv1 f75.o0)
theorem f75.ok (K : Nat) : EntryOK Try.prog 75 (f75.E K) := gen_ok mix tys_ok (sp := tabSp [(96, (f96.E K)), (95, (viewE [(0, .u8), (1, .u8)] (f95.E K)))]) (tab_ok ((tab_cons (f96.ok K) (tab_cons (view_ok (f95.ok K)) tab_nil)))) Try.func75 (c := bodyOf Try.f75) (by kernel_rfl) (by kernel_rfl) (loops_none (lp := lpNone) (by kernel_rfl)) (av := f75.av) (bl := f75.bl) (inR := f75.inR) (out := f75.o0) (fuel := 400)
  (by intro s x h; unfold f75.inA at h; split at h <;> simp at h; subst h; rfl) (fun _ => Nat.le_of_ble_eq_true rfl)
  (by intro s y h; unfold f75.inR at h; split at h <;> simp at h <;> subst h <;> rfl) (fun _ _ _ => rfl) (fun _ => by kernel_rfl)
end Go.Proofs

namespace Go.Proofs
open Go.VM
abbrev f94.Ty0 := Nat × Nat × List Int × Nat × List Int × Nat × List Int
abbrev f94.Ty1 := Nat × Nat × Nat × List Int × Nat × List Int
def f94.T (K : Nat) (a0 : Nat) (a1 : Nat) (m0_0 : Nat) (m0_1 : List Int) (m2_0 : Nat) (m2_1 : List Int) : Option (f94.Ty0) :=
  (f96.F K ((IntKind.wrap .u64 ((a1 : Nat) : Int)), 4)).bind fun y3 =>
  alt (fun y4 =>
    bif ((Nat.ble (0 + a1) m2_0 && true) && true) then
      (f95.F K (0, a1, 0, [], a1, (subI m2_1 0 a1))).bind fun y6 =>
      bif ((Nat.ble (0 + a0) m0_0 && true) && ((Nat.ble (0 + y6.1) y6.2.2.2.2.2.1 && true) && true)) then
        (f95.F K (a0, y6.1, a0, (subI m0_1 0 a0), y6.1, (subI y6.2.2.2.2.2.2 0 y6.1))).bind fun y7 =>
        some (y7.1, m0_0, m0_1, m2_0, m2_1, y7.2.2.2.2.2.1, y7.2.2.2.2.2.2)
      else
        none
    else
      none) (fun y5 =>
    bif ((Nat.ble (0 + y5.1) y5.2.1 && true) && ((Nat.ble (0 + a1) m2_0 && true) && true)) then
      (f95.F K (y5.1, a1, y5.1, (subI y5.2.2 0 y5.1), a1, (subI m2_1 0 a1))).bind fun y8 =>
      bif ((Nat.ble (0 + a0) m0_0 && true) && ((Nat.ble (0 + y8.1) y8.2.2.2.2.2.1 && true) && true)) then
        (f95.F K (a0, y8.1, a0, (subI m0_1 0 a0), y8.1, (subI y8.2.2.2.2.2.2 0 y8.1))).bind fun y9 =>
        some (y9.1, m0_0, m0_1, m2_0, m2_1, y9.2.2.2.2.2.1, y9.2.2.2.2.2.2)
      else
        none
    else
      none) y3
def f94.F (K : Nat) (x : f94.Ty1) : Option (f94.Ty0) := f94.T K x.1 x.2.1 x.2.2.1 x.2.2.2.1 x.2.2.2.2.1 x.2.2.2.2.2
def f94.av (x : f94.Ty1) : List VV := [.vw true 0 0 x.1 1, .vw true 2 0 x.2.1 3]
def f94.bl (x : f94.Ty1) : List (Nat × Blk) := [(0, ([.ints .u8 x.2.2.1 x.2.2.2.1], 0, .ro)), (2, ([.ints .u8 x.2.2.2.2.1 x.2.2.2.2.2], 0, .ro))]
def f94.inA : VS → Option (f94.Ty1)
  | ⟨[(0, .vw true 0 0 a0 1), (1, .vw true 2 0 a1 3)], [(0, ([.ints .u8 m0_0 m0_1], 0, .ro)), (2, ([.ints .u8 m2_0 m2_1], 0, .ro))], 4⟩ => some (a0, a1, m0_0, m0_1, m2_0, m2_1)
  | _ => none
def f94.o0 (y : f94.Ty0) : VS := ⟨[(0, .vec 4 0 y.1 5)], [(0, ([.ints .u8 y.2.1 y.2.2.1], 0, .ro)), (2, ([.ints .u8 y.2.2.2.1 y.2.2.2.2.1], 0, .ro)), (4, ([.ints .u8 y.2.2.2.2.2.1 y.2.2.2.2.2.2], 5, .vec 5))], 6⟩
def f94.inR : VS → Option (f94.Ty0)
  | ⟨[(0, .vec 4 0 y 5)], [(0, ([.ints .u8 z0_0 z0_1], 0, .ro)), (2, ([.ints .u8 z2_0 z2_1], 0, .ro)), (4, ([.ints .u8 z4_0 z4_1], 5, .vec 5))], 6⟩ => some (y, z0_0, z0_1, z2_0, z2_1, z4_0, z4_1)
  | _ => none
noncomputable def f94.E (K : Nat) : Entry := genE 4 f94.inA (f94.F K) (dv1 f94.o0)
theorem f94.ok (K : Nat) : EntryOK Try.prog 94 (f94.E K) := gen_ok mix tys_ok (sp := tabSp [(96, (f96.E K)), (95, (viewE [(0, .u8), (1, .u8)] (f95.E K)))]) (tab_ok ((tab_cons (f96.ok K) (tab_cons (view_ok (f95.ok K)) tab_nil)))) Try.func94 (c := bodyOf Try.f94) (by kernel_rfl) (by kernel_rfl) (loops_none (lp := lpNone) (by kernel_rfl)) (av := f94.av) (bl := f94.bl) (inR := f94.inR) (out := f94.o0) (fuel := 400)
  (by intro s x h; unfold f94.inA at h; split at h <;> simp at h; subst h; rfl) (fun _ => Nat.le_of_ble_eq_true rfl)
  (by intro s y h; unfold f94.inR at h; split at h <;> simp at h <;> subst h <;> rfl) (fun _ _ _ => rfl) (fun _ => by kernel_rfl)
end Go.Proofs

namespace Go.Proofs
open Go.VM
theorem f94.spec (K a n : Nat) (l p : List Int) (hl : l.length = a) (hp : p.length = n) (ha : a ≤ 10000000000) (hn : n ≤ 1000000000) (hK : 10 < K) :
    f94.F K (a, n, a, l, n, p) = some (a + (4 + n), a, l, n, p, a + (4 + n), l ++ Sh.frame p) := by
  simp only [f94.F, f94.T]
  have e := f96.spec 4 K n (by omega) (by omega) (by omega)
  rw [if_neg (by omega)] at e
  have lb : (be 4 n ++ p).length = 4 + n := by rw [List.length_append, be_length, hp]
  rw [wrap_u (n : Int) (by omega) (by omega), show ((4 : Int)) = ((4 : Nat) : Int) from rfl, e, bind_s, altr]
  dsimp only
  rw [Nat.zero_add, Nat.zero_add, Nat.zero_add, ble_true (Nat.le_refl 4), ble_true (Nat.le_refl n), Bool.and_self, Bool.and_self, Bool.and_self, cond_t, subI_self _ (be_length 4 n), subI_self _ hp, f95.spec K 4 n (be 4 n) p (be_length _ _) hp (by omega), bind_s]
  dsimp only
  rw [Nat.zero_add, ble_true (Nat.le_refl a), ble_true (Nat.le_refl (4 + n)), Bool.and_self, Bool.and_self, Bool.and_self, cond_t, subI_self _ hl, subI_self _ lb, f95.spec K a (4 + n) l _ hl lb (by omega), bind_s]
  rw [Sh.frame, hp]
theorem f75.spec (K a x : Nat) (l : List Int) (hl : l.length = a) (hx : x < 18446744073709551616) (ha : a ≤ 10000000000) (hK : 10 < K) :
    f75.F K (a, (x : Int), 4, a, l) = some (a + 4, a, l, a + 4, l ++ be 4 x) := by
  simp only [f75.F, f75.T]
  have e := f96.spec 4 K x hx (by omega) (by omega)
  rw [if_neg (by omega)] at e
  rw [show minE 4 8 = ((4 : Nat) : Int) from rfl, e, bind_s, altr]
  dsimp only
  rw [Nat.zero_add, Nat.zero_add, ble_true (Nat.le_refl a), ble_true (Nat.le_refl 4), Bool.and_self, Bool.and_self, Bool.and_self, cond_t, subI_self _ (be_length 4 x), subI_self _ hl, f95.spec K a 4 l _ hl (be_length _ _) (by omega), bind_s]
end Go.Proofs

namespace Go.Proofs
open Go.VM
def f39.T (_K : Nat) (a0 : List Int) : Option (List Int × Int) :=
  some (a0, 0)
def f39.F (K : Nat) (x : List Int) : Option (List Int × Int) := f39.T K x
def f39.av (x : List Int) : List VV := [.agg [.ints .u8 32 x]]
def f39.bl (_x : List Int) : List (Nat × Blk) := []
def f39.inA : VS → Option (List Int)
  | ⟨[(0, .agg [.ints .u8 32 a0])], [], 0⟩ => some a0
  | _ => none
def f39.o0 (y : List Int × Int) : VS := ⟨[(0, .ptr 0 0)], [(0, ([.ints .u8 32 y.1, .int .u64 y.2], 104, .norm))], 1⟩
def f39.inR : VS → Option (List Int × Int)
  | ⟨[(0, .ptr 0 0)], [(0, ([.ints .u8 32 z0_0, .int .u64 z0_1], 104, .norm))], 1⟩ => some (z0_0, z0_1)
  | _ => none
noncomputable def f39.E (K : Nat) : Entry := genE 0 f39.inA (f39.F K) (dv1 f39.o0)
theorem f39.ok (K : Nat) : EntryOK Try.prog 39 (f39.E K) := gen_ok mix tys_ok (tab_ok ( tab_nil)) Try.func39 (c := bodyOf Try.f39) (by kernel_rfl) (by kernel_rfl) (loops_none (lp := lpNone) (by kernel_rfl)) (av := f39.av) (bl := f39.bl) (inR := f39.inR) (out := f39.o0) (fuel := 400)
  (by intro s x h; unfold f39.inA at h; split at h <;> simp at h; subst h; rfl) (fun _ => Nat.le_of_ble_eq_true rfl)
  (by intro s y h; unfold f39.inR at h; split at h <;> simp at h <;> subst h <;> rfl) (fun _ _ _ => rfl) (fun _ => by kernel_rfl)
end Go.Proofs

namespace Go.Proofs
open Go.VM
abbrev f16.Ty0 := Nat × Nat × Nat × Int × Nat × List Int × Nat × Nat × Nat × List Int × Nat × List Int × List Int × Nat × List Int × Nat × List Int × Nat × List Int
abbrev f16.Ty1 := Nat × Nat × Nat × List Int × Nat × Nat × Nat × List Int × Nat × List Int × List Int × Nat × List Int × Nat × List Int
abbrev f16.Ty2 := Nat × Nat × List Int × Nat × Nat × Nat × List Int × Nat × List Int × List Int × Nat × List Int
abbrev f16.Ty3 := List Int × Nat × List Int × Nat × Nat × Nat × List Int × Nat × List Int
abbrev f16.Ty4 := Nat × Nat × List Int × Nat × Nat × Nat × List Int × Nat × List Int
noncomputable def f16.c : Code := bodyOf Try.f16
def f16.s0t (_K : Nat) (rec : f16.Ty2 → Option (f16.Ty2)) (t5 : Nat) (b0_0 : Nat) (b0_1 : List Int) (b2_0 : Nat) (b2_1 : Nat) (b4_0 : Nat) (b4_1 : List Int) (b6_0 : Nat) (b6_1 : List Int) (b8 : List Int) (b9_0 : Nat) (b9_1 : List Int) : Option (f16.Ty2) :=
  bif (decide (((t5 : Nat) : Int) < 64)) then
    bif (Nat.ble t5 b9_0 && (fitB ((t5 + 1) * 1))) then
      rec ((t5 + 1), b0_0, b0_1, b2_0, b2_1, b4_0, b4_1, b6_0, b6_1, b8, (t5 + 1), ((padT b9_1 t5) ++ [0]))
    else
      none
  else
    some (t5, b0_0, b0_1, b2_0, b2_1, b4_0, b4_1, b6_0, b6_1, b8, b9_0, b9_1)
def f16.s0 (K : Nat) (rec : f16.Ty2 → Option (f16.Ty2)) (x : f16.Ty2) : Option (f16.Ty2) := f16.s0t K rec x.1 x.2.1 x.2.2.1 x.2.2.2.1 x.2.2.2.2.1 x.2.2.2.2.2.1 x.2.2.2.2.2.2.1 x.2.2.2.2.2.2.2.1 x.2.2.2.2.2.2.2.2.1 x.2.2.2.2.2.2.2.2.2.1 x.2.2.2.2.2.2.2.2.2.2.1 x.2.2.2.2.2.2.2.2.2.2.2
noncomputable def f16.s0.b : Code := (findLoop 0 f16.c).getD .skip
def f16.s0.h : Hint := { lv := [1, 4, 5] }
def f16.s0.ho : Hint := { lv := [1, 4, 5] }
def f16.s0.shp (x : f16.Ty2) : VS := ⟨[(1, .vw true 2 0 2 3), (4, .ptr 8 0), (5, .vec 9 0 x.1 10)], [(0, ([.ints .u8 x.2.1 x.2.2.1], 0, .ro)), (2, ([.vw true 4 0 x.2.2.2.1 5, .vw true 6 0 x.2.2.2.2.1 7], 0, .ro)), (4, ([.ints .u8 x.2.2.2.2.2.1 x.2.2.2.2.2.2.1], 0, .ro)), (6, ([.ints .u8 x.2.2.2.2.2.2.2.1 x.2.2.2.2.2.2.2.2.1], 0, .ro)), (8, ([.ints .u8 32 x.2.2.2.2.2.2.2.2.2.1], 29, .norm)), (9, ([.ints .u8 x.2.2.2.2.2.2.2.2.2.2.1 x.2.2.2.2.2.2.2.2.2.2.2], 5, .vec 10))], 11⟩
def f16.s0.inX : VS → Option (f16.Ty2)
  | ⟨[(1, .vw true 2 0 2 3), (4, .ptr 8 0), (5, .vec 9 0 t5 10)], [(0, ([.ints .u8 b0_0 b0_1], 0, .ro)), (2, ([.vw true 4 0 b2_0 5, .vw true 6 0 b2_1 7], 0, .ro)), (4, ([.ints .u8 b4_0 b4_1], 0, .ro)), (6, ([.ints .u8 b6_0 b6_1], 0, .ro)), (8, ([.ints .u8 32 b8], 29, .norm)), (9, ([.ints .u8 b9_0 b9_1], 5, .vec 10))], 11⟩ => some (t5, b0_0, b0_1, b2_0, b2_1, b4_0, b4_1, b6_0, b6_1, b8, b9_0, b9_1)
  | _ => none
def f16.s0.o0 (y : f16.Ty2) : VS := ⟨[(1, .vw true 2 0 2 3), (4, .ptr 8 0), (5, .vec 9 0 y.1 10)], [(0, ([.ints .u8 y.2.1 y.2.2.1], 0, .ro)), (2, ([.vw true 4 0 y.2.2.2.1 5, .vw true 6 0 y.2.2.2.2.1 7], 0, .ro)), (4, ([.ints .u8 y.2.2.2.2.2.1 y.2.2.2.2.2.2.1], 0, .ro)), (6, ([.ints .u8 y.2.2.2.2.2.2.2.1 y.2.2.2.2.2.2.2.2.1], 0, .ro)), (8, ([.ints .u8 32 y.2.2.2.2.2.2.2.2.2.1], 29, .norm)), (9, ([.ints .u8 y.2.2.2.2.2.2.2.2.2.2.1 y.2.2.2.2.2.2.2.2.2.2.2], 5, .vec 10))], 11⟩
def f16.s0.des : ∀ α : Type, (f16.Ty2) → (Ex → VS → Option α) → Option α := (des1 (.exit 0) f16.s0.o0)
def f16.s0.out : f16.Ty2 → Ex × VS := (fun y => (.exit 0, f16.s0.o0 y))
theorem f16.s0.desOK : ∀ α y (k : Ex → VS → Option α), f16.s0.des α y k = k (f16.s0.out y).1 (f16.s0.out y).2 := (fun _ _ _ => rfl)
def f16.s0.inY : Ex → VS → Option (f16.Ty2)
  | .exit 0, ⟨[(1, .vw true 2 0 2 3), (4, .ptr 8 0), (5, .vec 9 0 t5 10)], [(0, ([.ints .u8 b0_0 b0_1], 0, .ro)), (2, ([.vw true 4 0 b2_0 5, .vw true 6 0 b2_1 7], 0, .ro)), (4, ([.ints .u8 b4_0 b4_1], 0, .ro)), (6, ([.ints .u8 b6_0 b6_1], 0, .ro)), (8, ([.ints .u8 32 b8], 29, .norm)), (9, ([.ints .u8 b9_0 b9_1], 5, .vec 10))], 11⟩ => some (t5, b0_0, b0_1, b2_0, b2_1, b4_0, b4_1, b6_0, b6_1, b8, b9_0, b9_1)
  | _, _ => none
def f16.s2t (_K : Nat) (rec : f16.Ty0 → Option (f16.Ty1)) (t5 : Nat) (t7 : Nat) (t8 : Nat) (t9 : Int) (b0_0 : Nat) (b0_1 : List Int) (b2_0 : Nat) (b2_1 : Nat) (b4_0 : Nat) (b4_1 : List Int) (b6_0 : Nat) (b6_1 : List Int) (b8 : List Int) (b9_0 : Nat) (b9_1 : List Int) (b11_0 : Nat) (b11_1 : List Int) (b13_0 : Nat) (b13_1 : List Int) : Option (f16.Ty1) :=
  bif (decide (t9 < 64)) then
    bif (decide (0 ≤ t9 ∧ t9 < ((t5 : Nat) : Int)) && (Nat.blt (0 + (Int.toNat t9)) b9_0)) then
      let v11 := 0 + (Int.toNat t9)
      bif Nat.blt v11 b9_0 then
        bif (Nat.ble t7 b11_0 && (fitB ((t7 + 1) * 1))) then
          bif (decide (0 ≤ t9 ∧ t9 < ((t5 : Nat) : Int)) && (Nat.blt (0 + (Int.toNat t9)) b9_0)) then
            let v15 := 0 + (Int.toNat t9)
            bif Nat.blt v15 b9_0 then
              bif (Nat.ble t8 b13_0 && (fitB ((t8 + 1) * 1))) then
                rec (t5, (t7 + 1), (t8 + 1), (IntKind.wrap .i64 (t9 + 1)), b0_0, b0_1, b2_0, b2_1, b4_0, b4_1, b6_0, b6_1, b8, b9_0, b9_1, (t7 + 1), ((padT b11_1 t7) ++ [(bits .xor .u8 (List.getD b9_1 v11 0) 54)]), (t8 + 1), ((padT b13_1 t8) ++ [(bits .xor .u8 (List.getD b9_1 v15 0) 92)]))
              else
                none
            else
              none
          else
            none
        else
          none
      else
        none
    else
      none
  else
    some (t7, t8, b0_0, b0_1, b2_0, b2_1, b4_0, b4_1, b6_0, b6_1, b8, b11_0, b11_1, b13_0, b13_1)
def f16.s2 (K : Nat) (rec : f16.Ty0 → Option (f16.Ty1)) (x : f16.Ty0) : Option (f16.Ty1) := f16.s2t K rec x.1 x.2.1 x.2.2.1 x.2.2.2.1 x.2.2.2.2.1 x.2.2.2.2.2.1 x.2.2.2.2.2.2.1 x.2.2.2.2.2.2.2.1 x.2.2.2.2.2.2.2.2.1 x.2.2.2.2.2.2.2.2.2.1 x.2.2.2.2.2.2.2.2.2.2.1 x.2.2.2.2.2.2.2.2.2.2.2.1 x.2.2.2.2.2.2.2.2.2.2.2.2.1 x.2.2.2.2.2.2.2.2.2.2.2.2.2.1 x.2.2.2.2.2.2.2.2.2.2.2.2.2.2.1 x.2.2.2.2.2.2.2.2.2.2.2.2.2.2.2.1 x.2.2.2.2.2.2.2.2.2.2.2.2.2.2.2.2.1 x.2.2.2.2.2.2.2.2.2.2.2.2.2.2.2.2.2.1 x.2.2.2.2.2.2.2.2.2.2.2.2.2.2.2.2.2.2
noncomputable def f16.s2.b : Code := (findLoop 2 f16.c).getD .skip
def f16.s2.h : Hint := { lv := [1, 4, 5, 7, 8, 9], co := [(7, 5, [.ints .u8 0 []]), (8, 5, [.ints .u8 0 []])] }
def f16.s2.ho : Hint := { lv := [1, 4, 7, 8] }
def f16.s2.shp (x : f16.Ty0) : VS := ⟨[(1, .vw true 2 0 2 3), (4, .ptr 8 0), (5, .vec 9 0 x.1 10), (7, .vec 11 0 x.2.1 12), (8, .vec 13 0 x.2.2.1 14), (9, .int .i64 x.2.2.2.1)], [(0, ([.ints .u8 x.2.2.2.2.1 x.2.2.2.2.2.1], 0, .ro)), (2, ([.vw true 4 0 x.2.2.2.2.2.2.1 5, .vw true 6 0 x.2.2.2.2.2.2.2.1 7], 0, .ro)), (4, ([.ints .u8 x.2.2.2.2.2.2.2.2.1 x.2.2.2.2.2.2.2.2.2.1], 0, .ro)), (6, ([.ints .u8 x.2.2.2.2.2.2.2.2.2.2.1 x.2.2.2.2.2.2.2.2.2.2.2.1], 0, .ro)), (8, ([.ints .u8 32 x.2.2.2.2.2.2.2.2.2.2.2.2.1], 29, .norm)), (9, ([.ints .u8 x.2.2.2.2.2.2.2.2.2.2.2.2.2.1 x.2.2.2.2.2.2.2.2.2.2.2.2.2.2.1], 5, .vec 10)), (11, ([.ints .u8 x.2.2.2.2.2.2.2.2.2.2.2.2.2.2.2.1 x.2.2.2.2.2.2.2.2.2.2.2.2.2.2.2.2.1], 5, .vec 12)), (13, ([.ints .u8 x.2.2.2.2.2.2.2.2.2.2.2.2.2.2.2.2.2.1 x.2.2.2.2.2.2.2.2.2.2.2.2.2.2.2.2.2.2], 5, .vec 14))], 15⟩
def f16.s2.inX : VS → Option (f16.Ty0)
  | ⟨[(1, .vw true 2 0 2 3), (4, .ptr 8 0), (5, .vec 9 0 t5 10), (7, .vec 11 0 t7 12), (8, .vec 13 0 t8 14), (9, .int .i64 t9)], [(0, ([.ints .u8 b0_0 b0_1], 0, .ro)), (2, ([.vw true 4 0 b2_0 5, .vw true 6 0 b2_1 7], 0, .ro)), (4, ([.ints .u8 b4_0 b4_1], 0, .ro)), (6, ([.ints .u8 b6_0 b6_1], 0, .ro)), (8, ([.ints .u8 32 b8], 29, .norm)), (9, ([.ints .u8 b9_0 b9_1], 5, .vec 10)), (11, ([.ints .u8 b11_0 b11_1], 5, .vec 12)), (13, ([.ints .u8 b13_0 b13_1], 5, .vec 14))], 15⟩ => some (t5, t7, t8, t9, b0_0, b0_1, b2_0, b2_1, b4_0, b4_1, b6_0, b6_1, b8, b9_0, b9_1, b11_0, b11_1, b13_0, b13_1)
  | _ => none
def f16.s2.o0 (y : f16.Ty1) : VS := ⟨[(1, .vw true 2 0 2 3), (4, .ptr 8 0), (7, .vec 9 0 y.1 10), (8, .vec 11 0 y.2.1 12)], [(0, ([.ints .u8 y.2.2.1 y.2.2.2.1], 0, .ro)), (2, ([.vw true 4 0 y.2.2.2.2.1 5, .vw true 6 0 y.2.2.2.2.2.1 7], 0, .ro)), (4, ([.ints .u8 y.2.2.2.2.2.2.1 y.2.2.2.2.2.2.2.1], 0, .ro)), (6, ([.ints .u8 y.2.2.2.2.2.2.2.2.1 y.2.2.2.2.2.2.2.2.2.1], 0, .ro)), (8, ([.ints .u8 32 y.2.2.2.2.2.2.2.2.2.2.1], 29, .norm)), (9, ([.ints .u8 y.2.2.2.2.2.2.2.2.2.2.2.1 y.2.2.2.2.2.2.2.2.2.2.2.2.1], 5, .vec 10)), (11, ([.ints .u8 y.2.2.2.2.2.2.2.2.2.2.2.2.2.1 y.2.2.2.2.2.2.2.2.2.2.2.2.2.2], 5, .vec 12))], 13⟩
def f16.s2.des : ∀ α : Type, (f16.Ty1) → (Ex → VS → Option α) → Option α := (des1 (.exit 2) f16.s2.o0)
def f16.s2.out : f16.Ty1 → Ex × VS := (fun y => (.exit 2, f16.s2.o0 y))
theorem f16.s2.desOK : ∀ α y (k : Ex → VS → Option α), f16.s2.des α y k = k (f16.s2.out y).1 (f16.s2.out y).2 := (fun _ _ _ => rfl)
def f16.s2.inY : Ex → VS → Option (f16.Ty1)
  | .exit 2, ⟨[(1, .vw true 2 0 2 3), (4, .ptr 8 0), (7, .vec 9 0 t7 10), (8, .vec 11 0 t8 12)], [(0, ([.ints .u8 b0_0 b0_1], 0, .ro)), (2, ([.vw true 4 0 b2_0 5, .vw true 6 0 b2_1 7], 0, .ro)), (4, ([.ints .u8 b4_0 b4_1], 0, .ro)), (6, ([.ints .u8 b6_0 b6_1], 0, .ro)), (8, ([.ints .u8 32 b8], 29, .norm)), (9, ([.ints .u8 b9_0 b9_1], 5, .vec 10)), (11, ([.ints .u8 b11_0 b11_1], 5, .vec 12))], 13⟩ => some (t7, t8, b0_0, b0_1, b2_0, b2_1, b4_0, b4_1, b6_0, b6_1, b8, b9_0, b9_1, b11_0, b11_1)
  | _, _ => none
def f16.lp (K : Nat) : Nat → Option (Hint × Summ) := tabLp [(0, f16.s0.h, summOf (iter (f16.s0 K) K) f16.s0.inX f16.s0.des), (2, f16.s2.h, summOf (iter (f16.s2 K) K) f16.s2.inX f16.s2.des)]
noncomputable def f16.tab (K : Nat) : List (Nat × Entry) := [(52, (viewE [(0, .u8)] (f52.E K)))]
theorem f16.tabOK (K : Nat) : SpecOK Try.prog (tabSp (f16.tab K)) := tab_ok ((tab_cons (view_ok (f52.ok K)) tab_nil))
theorem f16.s0.eq (K : Nat) (rec : f16.Ty2 → Option (f16.Ty2)) (x : f16.Ty2) : f16.s0 K rec x = roundL (getA tys) (tabSp (f16.tab K)) 65 8 (f16.lp K) 400 f16.s0.b f16.s0.h f16.s0.ho f16.s0.shp f16.s0.inX f16.s0.inY rec x := by kernel_rfl
theorem f16.s0.lok (K : Nat) : LoopsOK Try.prog 65 8 (f16.lp K) f16.s0.b := loops_ok (by
  have h : loopsIn (f16.lp K) f16.s0.b = [] := by kernel_rfl
  rw [h]; simp)
theorem f16.s0.ok (K : Nat) : SummOK Try.prog 65 8 (summOf (iter (f16.s0 K) K) f16.s0.inX f16.s0.des) f16.s0.b :=
  loop_ok mix tys_ok (f16.tabOK K) (h := f16.s0.h) (ho := f16.s0.ho) (shp := f16.s0.shp) (inX := f16.s0.inX) (des := f16.s0.des) (out := f16.s0.out) (inY := f16.s0.inY) (fuel := 400)
    (by intro st x h; unfold f16.s0.inX at h; split at h <;> simp at h; subst h; rfl)
    (by intro e st y h; unfold f16.s0.inY at h; split at h <;> simp at h <;> subst h <;> rfl)
    f16.s0.desOK (f16.s0.lok K) (f16.s0 K) (f16.s0.eq K) K
theorem f16.s2.eq (K : Nat) (rec : f16.Ty0 → Option (f16.Ty1)) (x : f16.Ty0) : f16.s2 K rec x = roundL (getA tys) (tabSp (f16.tab K)) 65 8 (f16.lp K) 400 f16.s2.b f16.s2.h f16.s2.ho f16.s2.shp f16.s2.inX f16.s2.inY rec x := by kernel_rfl
theorem f16.s2.lok (K : Nat) : LoopsOK Try.prog 65 8 (f16.lp K) f16.s2.b := loops_ok (by
  have h : loopsIn (f16.lp K) f16.s2.b = [] := by kernel_rfl
  rw [h]; simp)
theorem f16.s2.ok (K : Nat) : SummOK Try.prog 65 8 (summOf (iter (f16.s2 K) K) f16.s2.inX f16.s2.des) f16.s2.b :=
  loop_ok mix tys_ok (f16.tabOK K) (h := f16.s2.h) (ho := f16.s2.ho) (shp := f16.s2.shp) (inX := f16.s2.inX) (des := f16.s2.des) (out := f16.s2.out) (inY := f16.s2.inY) (fuel := 400)
    (by intro st x h; unfold f16.s2.inX at h; split at h <;> simp at h; subst h; rfl)
    (by intro e st y h; unfold f16.s2.inY at h; split at h <;> simp at h <;> subst h <;> rfl)
    f16.s2.desOK (f16.s2.lok K) (f16.s2 K) (f16.s2.eq K) K
theorem f16.loops (K : Nat) : LoopsOK Try.prog 65 8 (f16.lp K) f16.c := loops_ok (by
  have h : loopsIn (f16.lp K) f16.c = [(0, f16.s0.b), (2, f16.s2.b)] := by kernel_rfl
  rw [h]
  intro p hp
  simp only [List.mem_cons, List.not_mem_nil, or_false] at hp
  rcases hp with rfl | rfl
  · exact ⟨_, rfl, (f16.s0.ok K)⟩
  · exact ⟨_, rfl, (f16.s2.ok K)⟩)
def f16.T (K : Nat) (a0 : Nat) (m0_0 : Nat) (m0_1 : List Int) (m2_0 : Nat) (m2_1 : Nat) (m4_0 : Nat) (m4_1 : List Int) (m6_0 : Nat) (m6_1 : List Int) : Option (f16.Ty3) :=
  bif (Nat.ble (0 + a0) m0_0 && (fitB (a0 * 1))) then
    let v1 := subI m0_1 0 a0
    bif (decide (((a0 : Nat) : Int) > 64)) then
      bif ((Nat.ble (0 + a0) a0 && true) && true) then
        (f52.F K (a0, a0, (subI v1 0 a0))).bind fun y4 =>
        (iter (f16.s0 K) K (32, m0_0, m0_1, m2_0, m2_1, m4_0, m4_1, m6_0, m6_1, [0, 0, 0, 0, 0, 0, 0, 0, 0, 0, 0, 0, 0, 0, 0, 0, 0, 0, 0, 0, 0, 0, 0, 0, 0, 0, 0, 0, 0, 0, 0, 0], 32, (subI y4.1 0 32))).bind fun y9 =>
        (iter (f16.s2 K) K (y9.1, 0, 0, 0, y9.2.1, y9.2.2.1, y9.2.2.2.1, y9.2.2.2.2.1, y9.2.2.2.2.2.1, y9.2.2.2.2.2.2.1, y9.2.2.2.2.2.2.2.1, y9.2.2.2.2.2.2.2.2.1, y9.2.2.2.2.2.2.2.2.2.1, y9.2.2.2.2.2.2.2.2.2.2.1, y9.2.2.2.2.2.2.2.2.2.2.2, 0, [], 0, [])).bind fun y20 =>
        let v21 := y20.2.2.2.2.1
        bif ((Nat.ble (0 + v21) y20.2.2.2.2.2.2.1 && (Nat.ble y20.1 y20.2.2.2.2.2.2.2.2.2.2.2.1)) && (fitB ((y20.1 + v21) * 1))) then
          let v23 := y20.2.2.2.2.2.1
          bif ((Nat.ble (0 + v23) y20.2.2.2.2.2.2.2.2.1 && (Nat.ble (y20.1 + v21) (y20.1 + v21))) && (fitB (((y20.1 + v21) + v23) * 1))) then
            let v24 := (y20.1 + v21) + v23
            bif ((Nat.ble (0 + v24) ((y20.1 + v21) + v23) && true) && true) then
              (f52.F K (v24, v24, (subI ((padT ((padT y20.2.2.2.2.2.2.2.2.2.2.2.2.1 y20.1) ++ (padT (subI y20.2.2.2.2.2.2.2.1 0 v21) v21)) (y20.1 + v21)) ++ (padT (subI y20.2.2.2.2.2.2.2.2.2.1 0 v23) v23)) 0 v24))).bind fun y27 =>
              bif (Nat.ble y20.2.1 y20.2.2.2.2.2.2.2.2.2.2.2.2.2.1 && (fitB ((y20.2.1 + 32) * 1))) then
                let v28 := y20.2.1 + 32
                bif ((Nat.ble (0 + v28) (y20.2.1 + 32) && true) && true) then
                  (f52.F K (v28, v28, (subI ((padT y20.2.2.2.2.2.2.2.2.2.2.2.2.2.2 y20.2.1) ++ (padT (subI y27.1 0 32) 32)) 0 v28))).bind fun y31 =>
                  some (y31.1, y20.2.2.1, y20.2.2.2.1, y20.2.2.2.2.1, y20.2.2.2.2.2.1, y20.2.2.2.2.2.2.1, y20.2.2.2.2.2.2.2.1, y20.2.2.2.2.2.2.2.2.1, y20.2.2.2.2.2.2.2.2.2.1)
                else
                  none
              else
                none
            else
              none
          else
            none
        else
          none
      else
        none
    else
      (iter (f16.s0 K) K (a0, m0_0, m0_1, m2_0, m2_1, m4_0, m4_1, m6_0, m6_1, [0, 0, 0, 0, 0, 0, 0, 0, 0, 0, 0, 0, 0, 0, 0, 0, 0, 0, 0, 0, 0, 0, 0, 0, 0, 0, 0, 0, 0, 0, 0, 0], a0, v1)).bind fun y32 =>
      (iter (f16.s2 K) K (y32.1, 0, 0, 0, y32.2.1, y32.2.2.1, y32.2.2.2.1, y32.2.2.2.2.1, y32.2.2.2.2.2.1, y32.2.2.2.2.2.2.1, y32.2.2.2.2.2.2.2.1, y32.2.2.2.2.2.2.2.2.1, y32.2.2.2.2.2.2.2.2.2.1, y32.2.2.2.2.2.2.2.2.2.2.1, y32.2.2.2.2.2.2.2.2.2.2.2, 0, [], 0, [])).bind fun y33 =>
      let v34 := y33.2.2.2.2.1
      bif ((Nat.ble (0 + v34) y33.2.2.2.2.2.2.1 && (Nat.ble y33.1 y33.2.2.2.2.2.2.2.2.2.2.2.1)) && (fitB ((y33.1 + v34) * 1))) then
        let v36 := y33.2.2.2.2.2.1
        bif ((Nat.ble (0 + v36) y33.2.2.2.2.2.2.2.2.1 && (Nat.ble (y33.1 + v34) (y33.1 + v34))) && (fitB (((y33.1 + v34) + v36) * 1))) then
          let v37 := (y33.1 + v34) + v36
          bif ((Nat.ble (0 + v37) ((y33.1 + v34) + v36) && true) && true) then
            (f52.F K (v37, v37, (subI ((padT ((padT y33.2.2.2.2.2.2.2.2.2.2.2.2.1 y33.1) ++ (padT (subI y33.2.2.2.2.2.2.2.1 0 v34) v34)) (y33.1 + v34)) ++ (padT (subI y33.2.2.2.2.2.2.2.2.2.1 0 v36) v36)) 0 v37))).bind fun y40 =>
            bif (Nat.ble y33.2.1 y33.2.2.2.2.2.2.2.2.2.2.2.2.2.1 && (fitB ((y33.2.1 + 32) * 1))) then
              let v41 := y33.2.1 + 32
              bif ((Nat.ble (0 + v41) (y33.2.1 + 32) && true) && true) then
                (f52.F K (v41, v41, (subI ((padT y33.2.2.2.2.2.2.2.2.2.2.2.2.2.2 y33.2.1) ++ (padT (subI y40.1 0 32) 32)) 0 v41))).bind fun y44 =>
                some (y44.1, y33.2.2.1, y33.2.2.2.1, y33.2.2.2.2.1, y33.2.2.2.2.2.1, y33.2.2.2.2.2.2.1, y33.2.2.2.2.2.2.2.1, y33.2.2.2.2.2.2.2.2.1, y33.2.2.2.2.2.2.2.2.2.1)
              else
                none
            else
              none
          else
            none
        else
          none
      else
        none
  else
    none
def f16.F (K : Nat) (x : f16.Ty4) : Option (f16.Ty3) := f16.T K x.1 x.2.1 x.2.2.1 x.2.2.2.1 x.2.2.2.2.1 x.2.2.2.2.2.1 x.2.2.2.2.2.2.1 x.2.2.2.2.2.2.2.1 x.2.2.2.2.2.2.2.2
def f16.av (x : f16.Ty4) : List VV := [.vw true 0 0 x.1 1, .vw true 2 0 2 3]
def f16.bl (x : f16.Ty4) : List (Nat × Blk) := [(0, ([.ints .u8 x.2.1 x.2.2.1], 0, .ro)), (2, ([.vw true 4 0 x.2.2.2.1 5, .vw true 6 0 x.2.2.2.2.1 7], 0, .ro)), (4, ([.ints .u8 x.2.2.2.2.2.1 x.2.2.2.2.2.2.1], 0, .ro)), (6, ([.ints .u8 x.2.2.2.2.2.2.2.1 x.2.2.2.2.2.2.2.2], 0, .ro))]
def f16.inA : VS → Option (f16.Ty4)
  | ⟨[(0, .vw true 0 0 a0 1), (1, .vw true 2 0 2 3)], [(0, ([.ints .u8 m0_0 m0_1], 0, .ro)), (2, ([.vw true 4 0 m2_0 5, .vw true 6 0 m2_1 7], 0, .ro)), (4, ([.ints .u8 m4_0 m4_1], 0, .ro)), (6, ([.ints .u8 m6_0 m6_1], 0, .ro))], 8⟩ => some (a0, m0_0, m0_1, m2_0, m2_1, m4_0, m4_1, m6_0, m6_1)
  | _ => none
def f16.o0 (y : f16.Ty3) : VS := ⟨[(0, .agg [.ints .u8 32 y.1])], [(0, ([.ints .u8 y.2.1 y.2.2.1], 0, .ro)), (2, ([.vw true 4 0 y.2.2.2.1 5, .vw true 6 0 y.2.2.2.2.1 7], 0, .ro)), (4, ([.ints .u8 y.2.2.2.2.2.1 y.2.2.2.2.2.2.1], 0, .ro)), (6, ([.ints .u8 y.2.2.2.2.2.2.2.1 y.2.2.2.2.2.2.2.2], 0, .ro))], 8⟩
def f16.des : ∀ α : Type, (f16.Ty3) → (VS → Option α) → Option α := (dv1 f16.o0)
def f16.out : f16.Ty3 → VS := f16.o0
def f16.inR : VS → Option (f16.Ty3)
  | ⟨[(0, .agg [.ints .u8 32 y])], [(0, ([.ints .u8 z0_0 z0_1], 0, .ro)), (2, ([.vw true 4 0 z2_0 5, .vw true 6 0 z2_1 7], 0, .ro)), (4, ([.ints .u8 z4_0 z4_1], 0, .ro)), (6, ([.ints .u8 z6_0 z6_1], 0, .ro))], 8⟩ => some (y, z0_0, z0_1, z2_0, z2_1, z4_0, z4_1, z6_0, z6_1)
  | _ => none
noncomputable def f16.E (K : Nat) : Entry := genE 8 f16.inA (f16.F K) f16.des
theorem f16.eq (K : Nat) (x : f16.Ty4) : f16.F K x = xrun (getA tys) (tabSp (f16.tab K)) Try.f16.ntmps 8 (f16.lp K) 400 f16.c ⟨initL 0 (f16.av x), f16.bl x, 8⟩ (contF (getA tys) 8 Try.f16.results.toList f16.inR) := by kernel_rfl
theorem f16.ok (K : Nat) : EntryOK Try.prog 16 (f16.E K) :=
  gen_ok mix tys_ok (f16.tabOK K) Try.func16 (by kernel_rfl : Try.f16.body = some f16.c) (by kernel_rfl) (f16.loops K) (av := f16.av) (bl := f16.bl) (out := f16.out) (fuel := 400)
    (by intro s x h; unfold f16.inA at h; split at h <;> simp at h; subst h; rfl) (fun _ => Nat.le_of_ble_eq_true rfl)
    (by intro s y h; unfold f16.inR at h; split at h <;> simp at h <;> subst h <;> rfl) (fun _ _ _ => rfl) (f16.eq K)
end Go.Proofs

namespace Go.Proofs
open Go.VM
abbrev f43.Ty0 := List Int × List Int × Int
def f43.T (K : Nat) (m0_0 : List Int) (m0_1 : Int) : Option (f43.Ty0) :=
  (f75.F K (0, m0_1, 8, 0, [])).bind fun y1 =>
  bif ((Nat.ble (0 + y1.1) y1.2.2.2.1 && true) && true) then
    (f16.F K (32, 32, (subI m0_0 0 32), 4, y1.1, 4, [100, 114, 97, 119], y1.1, (subI y1.2.2.2.2 0 y1.1))).bind fun y2 =>
    some (y2.1, m0_0, (IntKind.wrap .u64 (m0_1 + 1)))
  else
    none
def f43.F (K : Nat) (x : List Int × Int) : Option (f43.Ty0) := f43.T K x.1 x.2
def f43.av (_x : List Int × Int) : List VV := [.ptr 0 0]
def f43.bl (x : List Int × Int) : List (Nat × Blk) := [(0, ([.ints .u8 32 x.1, .int .u64 x.2], 104, .norm))]
def f43.inA : VS → Option (List Int × Int)
  | ⟨[(0, .ptr 0 0)], [(0, ([.ints .u8 32 m0_0, .int .u64 m0_1], 104, .norm))], 1⟩ => some (m0_0, m0_1)
  | _ => none
def f43.o0 (y : f43.Ty0) : VS := ⟨[(0, .agg [.ints .u8 32 y.1])], [(0, ([.ints .u8 32 y.2.1, .int .u64 y.2.2], 104, .norm))], 1⟩
def f43.inR : VS → Option (f43.Ty0)
  | ⟨[(0, .agg [.ints .u8 32 y])], [(0, ([.ints .u8 32 z0_0, .int .u64 z0_1], 104, .norm))], 1⟩ => some (y, z0_0, z0_1)
  | _ => none
noncomputable def f43.E (K : Nat) : Entry := genE 1 f43.inA (f43.F K) (dv1 f43.o0)
theorem f43.ok (K : Nat) : EntryOK Try.prog 43 (f43.E K) := gen_ok mix tys_ok (sp := tabSp [(75, (viewE [(0, .u8)] (f75.E K))), (16, (rowsE 1 .u8 (viewE [(0, .u8)] (f16.E K))))]) (tab_ok ((tab_cons (view_ok (f75.ok K)) (tab_cons (rows_ok (view_ok (f16.ok K))) tab_nil)))) Try.func43 (c := bodyOf Try.f43) (by kernel_rfl) (by kernel_rfl) (loops_none (lp := lpNone) (by kernel_rfl)) (av := f43.av) (bl := f43.bl) (inR := f43.inR) (out := f43.o0) (fuel := 400)
  (by intro s x h; unfold f43.inA at h; split at h <;> simp at h; subst h; rfl) (fun _ => Nat.le_of_ble_eq_true rfl)
  (by intro s y h; unfold f43.inR at h; split at h <;> simp at h <;> subst h <;> rfl) (fun _ _ _ => rfl) (fun _ => by kernel_rfl)
end Go.Proofs

namespace Go.Proofs
open Go.VM
abbrev f60.Ty0 := Nat × Nat × Nat × Nat × List Int × Nat × List Int × Nat × List Int
abbrev f60.Ty1 := ByteArray × Nat × Nat × Nat × List Int × Nat × List Int
def f60.T (K : Nat) (a0 : ByteArray) (m0_0 : Nat) (m0_1 : Nat) (m2_0 : Nat) (m2_1 : List Int) (m4_0 : Nat) (m4_1 : List Int) : Option (f60.Ty0) :=
  let v1 := ByteArray.size a0
  bif ((Nat.ble (0 + v1) (ByteArray.size a0) && true) && true) then
    (f94.F K (0, v1, 0, [], v1, (subI (strL a0) 0 v1))).bind fun y3 =>
    bif ((Nat.ble (0 + y3.1) y3.2.2.2.2.2.1 && true) && true) then
      (f75.F K (y3.1, 2, 4, y3.1, (subI y3.2.2.2.2.2.2 0 y3.1))).bind fun y4 =>
      bif ((Nat.ble (0 + y4.1) y4.2.2.2.1 && true) && ((Nat.ble (0 + m0_0) m2_0 && true) && true)) then
        (f94.F K (y4.1, m0_0, y4.1, (subI y4.2.2.2.2 0 y4.1), m0_0, (subI m2_1 0 m0_0))).bind fun y5 =>
        bif ((Nat.ble (0 + y5.1) y5.2.2.2.2.2.1 && true) && ((Nat.ble (0 + m0_1) m4_0 && true) && true)) then
          (f94.F K (y5.1, m0_1, y5.1, (subI y5.2.2.2.2.2.2 0 y5.1), m0_1, (subI m4_1 0 m0_1))).bind fun y6 =>
          some (y6.1, m0_0, m0_1, m2_0, m2_1, m4_0, m4_1, y6.2.2.2.2.2.1, y6.2.2.2.2.2.2)
        else
          none
      else
        none
    else
      none
  else
    none
def f60.F (K : Nat) (x : f60.Ty1) : Option (f60.Ty0) := f60.T K x.1 x.2.1 x.2.2.1 x.2.2.2.1 x.2.2.2.2.1 x.2.2.2.2.2.1 x.2.2.2.2.2.2
def f60.av (x : f60.Ty1) : List VV := [.str x.1, .vw true 0 0 2 1]
def f60.bl (x : f60.Ty1) : List (Nat × Blk) := [(0, ([.vw true 2 0 x.2.1 3, .vw true 4 0 x.2.2.1 5], 0, .ro)), (2, ([.ints .u8 x.2.2.2.1 x.2.2.2.2.1], 0, .ro)), (4, ([.ints .u8 x.2.2.2.2.2.1 x.2.2.2.2.2.2], 0, .ro))]
def f60.inA : VS → Option (f60.Ty1)
  | ⟨[(0, .str a0), (1, .vw true 0 0 2 1)], [(0, ([.vw true 2 0 m0_0 3, .vw true 4 0 m0_1 5], 0, .ro)), (2, ([.ints .u8 m2_0 m2_1], 0, .ro)), (4, ([.ints .u8 m4_0 m4_1], 0, .ro))], 6⟩ => some (a0, m0_0, m0_1, m2_0, m2_1, m4_0, m4_1)
  | _ => none
def f60.o0 (y : f60.Ty0) : VS := ⟨[(0, .vec 6 0 y.1 7)], [(0, ([.vw true 2 0 y.2.1 3, .vw true 4 0 y.2.2.1 5], 0, .ro)), (2, ([.ints .u8 y.2.2.2.1 y.2.2.2.2.1], 0, .ro)), (4, ([.ints .u8 y.2.2.2.2.2.1 y.2.2.2.2.2.2.1], 0, .ro)), (6, ([.ints .u8 y.2.2.2.2.2.2.2.1 y.2.2.2.2.2.2.2.2], 5, .vec 7))], 8⟩
def f60.inR : VS → Option (f60.Ty0)
  | ⟨[(0, .vec 6 0 y 7)], [(0, ([.vw true 2 0 z0_0 3, .vw true 4 0 z0_1 5], 0, .ro)), (2, ([.ints .u8 z2_0 z2_1], 0, .ro)), (4, ([.ints .u8 z4_0 z4_1], 0, .ro)), (6, ([.ints .u8 z6_0 z6_1], 5, .vec 7))], 8⟩ => some (y, z0_0, z0_1, z2_0, z2_1, z4_0, z4_1, z6_0, z6_1)
  | _ => none
noncomputable def f60.E (K : Nat) : Entry := genE 6 f60.inA (f60.F K) (dv1 f60.o0)
theorem f60.ok (K : Nat) : EntryOK Try.prog 60 (f60.E K) := gen_ok mix tys_ok (sp := tabSp [(94, (viewE [(0, .u8), (1, .u8)] (f94.E K))), (75, (viewE [(0, .u8)] (f75.E K)))]) (tab_ok ((tab_cons (view_ok (f94.ok K)) (tab_cons (view_ok (f75.ok K)) tab_nil)))) Try.func60 (c := bodyOf Try.f60) (by kernel_rfl) (by kernel_rfl) (loops_none (lp := lpNone) (by kernel_rfl)) (av := f60.av) (bl := f60.bl) (inR := f60.inR) (out := f60.o0) (fuel := 400)
  (by intro s x h; unfold f60.inA at h; split at h <;> simp at h; subst h; rfl) (fun _ => Nat.le_of_ble_eq_true rfl)
  (by intro s y h; unfold f60.inR at h; split at h <;> simp at h <;> subst h <;> rfl) (fun _ _ _ => rfl) (fun _ => by kernel_rfl)
end Go.Proofs

namespace Go.Proofs
open Go.VM
abbrev f25.Ty0 := ByteArray × Nat × Nat × Nat × List Int × Nat × List Int
abbrev f25.Ty1 := List Int × Nat × Nat × Nat × List Int × Nat × List Int
def f25.T (K : Nat) (a0 : ByteArray) (m0_0 : Nat) (m0_1 : Nat) (m2_0 : Nat) (m2_1 : List Int) (m4_0 : Nat) (m4_1 : List Int) : Option (f25.Ty1) :=
  bif ((Nat.ble (0 + m0_0) m2_0 && true) && ((Nat.ble (0 + m0_1) m4_0 && true) && true)) then
    (f60.F K (a0, m0_0, m0_1, m0_0, (subI m2_1 0 m0_0), m0_1, (subI m4_1 0 m0_1))).bind fun y1 =>
    bif ((Nat.ble (0 + y1.1) y1.2.2.2.2.2.2.2.1 && true) && true) then
      (f52.F K (y1.1, y1.1, (subI y1.2.2.2.2.2.2.2.2 0 y1.1))).bind fun y2 =>
      some (y2.1, m0_0, m0_1, m2_0, m2_1, m4_0, m4_1)
    else
      none
  else
    none
def f25.F (K : Nat) (x : f25.Ty0) : Option (f25.Ty1) := f25.T K x.1 x.2.1 x.2.2.1 x.2.2.2.1 x.2.2.2.2.1 x.2.2.2.2.2.1 x.2.2.2.2.2.2
def f25.av (x : f25.Ty0) : List VV := [.str x.1, .vw true 0 0 2 1]
def f25.bl (x : f25.Ty0) : List (Nat × Blk) := [(0, ([.vw true 2 0 x.2.1 3, .vw true 4 0 x.2.2.1 5], 0, .ro)), (2, ([.ints .u8 x.2.2.2.1 x.2.2.2.2.1], 0, .ro)), (4, ([.ints .u8 x.2.2.2.2.2.1 x.2.2.2.2.2.2], 0, .ro))]
def f25.inA : VS → Option (f25.Ty0)
  | ⟨[(0, .str a0), (1, .vw true 0 0 2 1)], [(0, ([.vw true 2 0 m0_0 3, .vw true 4 0 m0_1 5], 0, .ro)), (2, ([.ints .u8 m2_0 m2_1], 0, .ro)), (4, ([.ints .u8 m4_0 m4_1], 0, .ro))], 6⟩ => some (a0, m0_0, m0_1, m2_0, m2_1, m4_0, m4_1)
  | _ => none
def f25.o0 (y : f25.Ty1) : VS := ⟨[(0, .agg [.ints .u8 32 y.1])], [(0, ([.vw true 2 0 y.2.1 3, .vw true 4 0 y.2.2.1 5], 0, .ro)), (2, ([.ints .u8 y.2.2.2.1 y.2.2.2.2.1], 0, .ro)), (4, ([.ints .u8 y.2.2.2.2.2.1 y.2.2.2.2.2.2], 0, .ro))], 6⟩
def f25.inR : VS → Option (f25.Ty1)
  | ⟨[(0, .agg [.ints .u8 32 y])], [(0, ([.vw true 2 0 z0_0 3, .vw true 4 0 z0_1 5], 0, .ro)), (2, ([.ints .u8 z2_0 z2_1], 0, .ro)), (4, ([.ints .u8 z4_0 z4_1], 0, .ro))], 6⟩ => some (y, z0_0, z0_1, z2_0, z2_1, z4_0, z4_1)
  | _ => none
noncomputable def f25.E (K : Nat) : Entry := genE 6 f25.inA (f25.F K) (dv1 f25.o0)
theorem f25.ok (K : Nat) : EntryOK Try.prog 25 (f25.E K) := gen_ok mix tys_ok (sp := tabSp [(60, (rowsE 1 .u8 (f60.E K))), (52, (viewE [(0, .u8)] (f52.E K)))]) (tab_ok ((tab_cons (rows_ok (f60.ok K)) (tab_cons (view_ok (f52.ok K)) tab_nil)))) Try.func25 (c := bodyOf Try.f25) (by kernel_rfl) (by kernel_rfl) (loops_none (lp := lpNone) (by kernel_rfl)) (av := f25.av) (bl := f25.bl) (inR := f25.inR) (out := f25.o0) (fuel := 400)
  (by intro s x h; unfold f25.inA at h; split at h <;> simp at h; subst h; rfl) (fun _ => Nat.le_of_ble_eq_true rfl)
  (by intro s y h; unfold f25.inR at h; split at h <;> simp at h <;> subst h <;> rfl) (fun _ _ _ => rfl) (fun _ => by kernel_rfl)
end Go.Proofs

namespace Go.Proofs
open Go.VM
abbrev f23.Ty0 := List Int × ByteArray × Nat × Nat × List Int
abbrev f23.Ty1 := List Int × Int × Nat × Nat × List Int
def f23.T (K : Nat) (a0 : List Int) (a1 : ByteArray) (m0 : Nat) (m2_0 : Nat) (m2_1 : List Int) : Option (f23.Ty1) :=
  bif (eqL 4 a0 [0, 0, 0, 0] && true) then
    some ([0, 0, 0, 0], 1, m0, m2_0, m2_1)
  else
    bif ((Nat.ble (0 + m0) m2_0 && true) && true) then
      (f25.F K (a1, m0, 1, m0, (subI m2_1 0 m0), 1, [0])).bind fun y2 =>
      bif ((Nat.ble (0 + m0) m2_0 && true) && true) then
        (f25.F K (a1, m0, 1, m0, (subI m2_1 0 m0), 1, [1])).bind fun y3 =>
        (f55.F K (32, 32, (subI y2.1 0 32))).bind fun y4 =>
        (f55.F K (32, 32, (subI y3.1 0 32))).bind fun y5 =>
        (f56.F K (y5.1, y4.1, a0)).bind fun y6 =>
        some (y6.1, y6.2, m0, m2_0, m2_1)
      else
        none
    else
      none
def f23.F (K : Nat) (x : f23.Ty0) : Option (f23.Ty1) := f23.T K x.1 x.2.1 x.2.2.1 x.2.2.2.1 x.2.2.2.2
def f23.av (x : f23.Ty0) : List VV := [.agg [.ints .u64 4 x.1], .str x.2.1, .vw true 0 0 1 1]
def f23.bl (x : f23.Ty0) : List (Nat × Blk) := [(0, ([.vw true 2 0 x.2.2.1 3], 0, .ro)), (2, ([.ints .u8 x.2.2.2.1 x.2.2.2.2], 0, .ro))]
def f23.inA : VS → Option (f23.Ty0)
  | ⟨[(0, .agg [.ints .u64 4 a0]), (1, .str a1), (2, .vw true 0 0 1 1)], [(0, ([.vw true 2 0 m0 3], 0, .ro)), (2, ([.ints .u8 m2_0 m2_1], 0, .ro))], 4⟩ => some (a0, a1, m0, m2_0, m2_1)
  | _ => none
def f23.o0 (y : f23.Ty1) : VS := ⟨[(0, .tup [.agg [.ints .u64 4 y.1], .int .i64 y.2.1])], [(0, ([.vw true 2 0 y.2.2.1 3], 0, .ro)), (2, ([.ints .u8 y.2.2.2.1 y.2.2.2.2], 0, .ro))], 4⟩
def f23.inR : VS → Option (f23.Ty1)
  | ⟨[(0, .tup [.agg [.ints .u64 4 y_0], .int .i64 y_1])], [(0, ([.vw true 2 0 z0 3], 0, .ro)), (2, ([.ints .u8 z2_0 z2_1], 0, .ro))], 4⟩ => some (y_0, y_1, z0, z2_0, z2_1)
  | _ => none
noncomputable def f23.E (K : Nat) : Entry := genE 4 f23.inA (f23.F K) (dv1 f23.o0)
theorem f23.ok (K : Nat) : EntryOK Try.prog 23 (f23.E K) := gen_ok mix tys_ok (sp := tabSp [(25, (rowsE 1 .u8 (f25.E K))), (55, (viewE [(0, .u8)] (f55.E K))), (56, (f56.E K))]) (tab_ok ((tab_cons (rows_ok (f25.ok K)) (tab_cons (view_ok (f55.ok K)) (tab_cons (f56.ok K) tab_nil))))) Try.func23 (c := bodyOf Try.f23) (by kernel_rfl) (by kernel_rfl) (loops_none (lp := lpNone) (by kernel_rfl)) (av := f23.av) (bl := f23.bl) (inR := f23.inR) (out := f23.o0) (fuel := 400)
  (by intro s x h; unfold f23.inA at h; split at h <;> simp at h; subst h; rfl) (fun _ => Nat.le_of_ble_eq_true rfl)
  (by intro s y h; unfold f23.inR at h; split at h <;> simp at h <;> subst h <;> rfl) (fun _ _ _ => rfl) (fun _ => by kernel_rfl)
end Go.Proofs

namespace Go.Proofs
open Go.VM
abbrev f41.Ty0 := List Int × List Int × List Int × List Int × Int
abbrev f41.Ty1 := List Int × Int × List Int × Int
def f41.k0 : ByteArray := ByteArray.mk #[101, 120, 112, 111, 110, 101, 110, 116]
def f41.T (K : Nat) (_a1_0 : List Int) (a1_1 : List Int) (_a1_2 : List Int) (m0_0 : List Int) (m0_1 : Int) : Option (f41.Ty1) :=
  (f71.F K (a1_1, [3, 0, 0, 0])).bind fun y1 =>
  bif (decide (y1 < 0)) then
    some ([0, 0, 0, 0], 1, m0_0, m0_1)
  else
    (f43.F K (m0_0, m0_1)).bind fun y3 =>
    (f72.F K (a1_1, [1, 0, 0, 0])).bind fun y4 =>
    (f23.F K (y4.1, f41.k0, 32, 32, (subI y3.1 0 32))).bind fun y5 =>
    (f73.F K (y5.1, [1, 0, 0, 0])).bind fun y6 =>
    some (y6.1, 0, y3.2.1, y3.2.2)
def f41.F (K : Nat) (x : f41.Ty0) : Option (f41.Ty1) := f41.T K x.1 x.2.1 x.2.2.1 x.2.2.2.1 x.2.2.2.2
def f41.av (x : f41.Ty0) : List VV := [.ptr 0 0, .agg [.ints .u64 4 x.1, .ints .u64 4 x.2.1, .ints .u64 4 x.2.2.1]]
def f41.bl (x : f41.Ty0) : List (Nat × Blk) := [(0, ([.ints .u8 32 x.2.2.2.1, .int .u64 x.2.2.2.2], 104, .norm))]
def f41.inA : VS → Option (f41.Ty0)
  | ⟨[(0, .ptr 0 0), (1, .agg [.ints .u64 4 a1_0, .ints .u64 4 a1_1, .ints .u64 4 a1_2])], [(0, ([.ints .u8 32 m0_0, .int .u64 m0_1], 104, .norm))], 1⟩ => some (a1_0, a1_1, a1_2, m0_0, m0_1)
  | _ => none
def f41.o0 (y : f41.Ty1) : VS := ⟨[(0, .tup [.agg [.ints .u64 4 y.1], .int .i64 y.2.1])], [(0, ([.ints .u8 32 y.2.2.1, .int .u64 y.2.2.2], 104, .norm))], 1⟩
def f41.inR : VS → Option (f41.Ty1)
  | ⟨[(0, .tup [.agg [.ints .u64 4 y_0], .int .i64 y_1])], [(0, ([.ints .u8 32 z0_0, .int .u64 z0_1], 104, .norm))], 1⟩ => some (y_0, y_1, z0_0, z0_1)
  | _ => none
noncomputable def f41.E (K : Nat) : Entry := genE 1 f41.inA (f41.F K) (dv1 f41.o0)
theorem f41.ok (K : Nat) : EntryOK Try.prog 41 (f41.E K) := gen_ok mix tys_ok (sp := tabSp [(71, (f71.E K)), (43, (f43.E K)), (72, (f72.E K)), (23, (rowsE 2 .u8 (f23.E K))), (73, (f73.E K))]) (tab_ok ((tab_cons (f71.ok K) (tab_cons (f43.ok K) (tab_cons (f72.ok K) (tab_cons (rows_ok (f23.ok K)) (tab_cons (f73.ok K) tab_nil))))))) Try.func41 (c := bodyOf Try.f41) (by kernel_rfl) (by kernel_rfl) (loops_none (lp := lpNone) (by kernel_rfl)) (av := f41.av) (bl := f41.bl) (inR := f41.inR) (out := f41.o0) (fuel := 400)
  (by intro s x h; unfold f41.inA at h; split at h <;> simp at h; subst h; rfl) (fun _ => Nat.le_of_ble_eq_true rfl)
  (by intro s y h; unfold f41.inR at h; split at h <;> simp at h <;> subst h <;> rfl) (fun _ _ _ => rfl) (fun _ => by kernel_rfl)
end Go.Proofs

namespace Go.Proofs
open Go.VM
abbrev f45.Ty0 := Int × List Int × Int
def f45.T (_K : Nat) (m0_0 : List Int) (m0_1 : Int) : Option (f45.Ty0) :=
  some (m0_1, m0_0, m0_1)
def f45.F (K : Nat) (x : List Int × Int) : Option (f45.Ty0) := f45.T K x.1 x.2
def f45.av (_x : List Int × Int) : List VV := [.ptr 0 0]
def f45.bl (x : List Int × Int) : List (Nat × Blk) := [(0, ([.ints .u8 32 x.1, .int .u64 x.2], 104, .norm))]
def f45.inA : VS → Option (List Int × Int)
  | ⟨[(0, .ptr 0 0)], [(0, ([.ints .u8 32 m0_0, .int .u64 m0_1], 104, .norm))], 1⟩ => some (m0_0, m0_1)
  | _ => none
def f45.o0 (y : f45.Ty0) : VS := ⟨[(0, .int .u64 y.1)], [(0, ([.ints .u8 32 y.2.1, .int .u64 y.2.2], 104, .norm))], 1⟩
def f45.inR : VS → Option (f45.Ty0)
  | ⟨[(0, .int .u64 y)], [(0, ([.ints .u8 32 z0_0, .int .u64 z0_1], 104, .norm))], 1⟩ => some (y, z0_0, z0_1)
  | _ => none
noncomputable def f45.E (K : Nat) : Entry := genE 1 f45.inA (f45.F K) (dv1 f45.o0)
theorem f45.ok (K : Nat) : EntryOK Try.prog 45 (f45.E K) := gen_ok mix tys_ok (tab_ok ( tab_nil)) Try.func45 (c := bodyOf Try.f45) (by kernel_rfl) (by kernel_rfl) (loops_none (lp := lpNone) (by kernel_rfl)) (av := f45.av) (bl := f45.bl) (inR := f45.inR) (out := f45.o0) (fuel := 400)
  (by intro s x h; unfold f45.inA at h; split at h <;> simp at h; subst h; rfl) (fun _ => Nat.le_of_ble_eq_true rfl)
  (by intro s y h; unfold f45.inR at h; split at h <;> simp at h <;> subst h <;> rfl) (fun _ _ _ => rfl) (fun _ => by kernel_rfl)
end Go.Proofs

namespace Go.Proofs
open Go.VM
abbrev f9.Ty0 := Nat × Int × List Int × List Int × List Int × List Int × Int × Int × List Int × List Int × Int
abbrev f9.Ty1 := List Int × List Int × List Int × List Int × Nat × List Int
abbrev f9.Ty2 := Bool × List Int
noncomputable def f9.c : Code := bodyOf Try.f9
def f9.s0t (K : Nat) (rec : f9.Ty0 → Option ((f9.Ty2) ⊕ (List Int))) (t2 : Nat) (t9 : Int) (b0 : List Int) (b2_0 : List Int) (b2_1 : List Int) (b2_2 : List Int) (b3_0 : Int) (b3_1 : Int) (b3_2 : List Int) (b4_0 : List Int) (b4_1 : Int) : Option ((f9.Ty2) ⊕ (List Int)) :=
  bif (decide (t9 < ((t2 : Nat) : Int))) then
    bif decide (0 ≤ t9 ∧ t9 < ((t2 : Nat) : Int)) then
      let v8 := 0 + (Int.toNat t9)
      bif Nat.blt v8 (List.length b0) then
        bif (List.getD b0 v8 0 != 0) then
          (f40.F K (b2_0, b2_1, b2_2, b3_0, b3_1, b3_2)).bind fun y10 =>
          (f41.F K (b2_0, b2_1, b2_2, b4_0, b4_1)).bind fun y11 =>
          bif (!(eqL 4 y10.1 y11.1 && true)) then
            some (.inl (false, b0))
          else
            bif (y10.2.1 != y11.2.1) then
              some (.inl (false, b0))
            else
              (f44.F K (y10.2.2.1, y10.2.2.2.1, y10.2.2.2.2)).bind fun y14 =>
              (f45.F K (y11.2.2.1, y11.2.2.2)).bind fun y15 =>
              bif (y14.1 != y15.1) then
                some (.inl (false, b0))
              else
                rec (t2, (IntKind.wrap .i64 (t9 + 1)), b0, b2_0, b2_1, b2_2, y14.2.1, y14.2.2.1, y14.2.2.2, y15.2.1, y15.2.2)
        else
          (f42.F K (b3_0, b3_1, b3_2)).bind fun y18 =>
          (f43.F K (b4_0, b4_1)).bind fun y19 =>
          bif (!(eqL 32 y18.1 y19.1 && true)) then
            some (.inl (false, b0))
          else
            (f44.F K (y18.2.1, y18.2.2.1, y18.2.2.2)).bind fun y21 =>
            (f45.F K (y19.2.1, y19.2.2)).bind fun y22 =>
            bif (y21.1 != y22.1) then
              some (.inl (false, b0))
            else
              rec (t2, (IntKind.wrap .i64 (t9 + 1)), b0, b2_0, b2_1, b2_2, y21.2.1, y21.2.2.1, y21.2.2.2, y22.2.1, y22.2.2)
      else
        none
    else
      none
  else
    some (.inr b0)
def f9.s0 (K : Nat) (rec : f9.Ty0 → Option ((f9.Ty2) ⊕ (List Int))) (x : f9.Ty0) : Option ((f9.Ty2) ⊕ (List Int)) := f9.s0t K rec x.1 x.2.1 x.2.2.1 x.2.2.2.1 x.2.2.2.2.1 x.2.2.2.2.2.1 x.2.2.2.2.2.2.1 x.2.2.2.2.2.2.2.1 x.2.2.2.2.2.2.2.2.1 x.2.2.2.2.2.2.2.2.2.1 x.2.2.2.2.2.2.2.2.2.2
noncomputable def f9.s0.b : Code := (findLoop 0 f9.c).getD .skip
def f9.s0.h : Hint := { lv := [2, 4, 7, 8, 9] }
def f9.s0.ho : Hint := { lv := [6] }
def f9.s0.shp (x : f9.Ty0) : VS := ⟨[(2, .vw true 0 0 x.1 1), (4, .ptr 2 0), (7, .ptr 3 0), (8, .ptr 4 0), (9, .int .i64 x.2.1)], [(0, ([], 0, .rb x.2.2.1)), (2, ([.ints .u64 4 x.2.2.2.1, .ints .u64 4 x.2.2.2.2.1, .ints .u64 4 x.2.2.2.2.2.1], 63, .norm)), (3, ([.int .u64 x.2.2.2.2.2.2.1, .int .i64 x.2.2.2.2.2.2.2.1, .ints .u8 32 x.2.2.2.2.2.2.2.2.1], 102, .norm)), (4, ([.ints .u8 32 x.2.2.2.2.2.2.2.2.2.1, .int .u64 x.2.2.2.2.2.2.2.2.2.2], 104, .norm))], 5⟩
def f9.s0.inX : VS → Option (f9.Ty0)
  | ⟨[(2, .vw true 0 0 t2 1), (4, .ptr 2 0), (7, .ptr 3 0), (8, .ptr 4 0), (9, .int .i64 t9)], [(0, ([], 0, .rb b0)), (2, ([.ints .u64 4 b2_0, .ints .u64 4 b2_1, .ints .u64 4 b2_2], 63, .norm)), (3, ([.int .u64 b3_0, .int .i64 b3_1, .ints .u8 32 b3_2], 102, .norm)), (4, ([.ints .u8 32 b4_0, .int .u64 b4_1], 104, .norm))], 5⟩ => some (t2, t9, b0, b2_0, b2_1, b2_2, b3_0, b3_1, b3_2, b4_0, b4_1)
  | _ => none
def f9.s0.o0 (y : f9.Ty2) : VS := ⟨[(6, .bool y.1)], [(0, ([], 0, .rb y.2))], 2⟩
def f9.s0.o1 (y : List Int) : VS := ⟨[], [(0, ([], 0, .rb y))], 2⟩
def f9.s0.des : ∀ α : Type, ((f9.Ty2) ⊕ (List Int)) → (Ex → VS → Option α) → Option α := (desA (des1 (.ret) f9.s0.o0) (des1 (.exit 0) f9.s0.o1))
def f9.s0.out : (f9.Ty2) ⊕ (List Int) → Ex × VS := (alt (fun y => (.ret, f9.s0.o0 y)) (fun y => (.exit 0, f9.s0.o1 y)))
theorem f9.s0.desOK : ∀ α y (k : Ex → VS → Option α), f9.s0.des α y k = k (f9.s0.out y).1 (f9.s0.out y).2 := (desA_ok (fun _ _ _ => rfl) (fun _ _ _ => rfl))
def f9.s0.inY : Ex → VS → Option ((f9.Ty2) ⊕ (List Int))
  | .ret, ⟨[(6, .bool t6)], [(0, ([], 0, .rb b0))], 2⟩ => some (.inl (t6, b0))
  | .exit 0, ⟨[], [(0, ([], 0, .rb b0))], 2⟩ => some (.inr b0)
  | _, _ => none
def f9.lp (K : Nat) : Nat → Option (Hint × Summ) := tabLp [(0, f9.s0.h, summOf (iter (f9.s0 K) K) f9.s0.inX f9.s0.des)]
noncomputable def f9.tab (K : Nat) : List (Nat × Entry) := [(37, (f37.E K)), (38, (f38.E K)), (39, (f39.E K)), (40, (f40.E K)), (41, (f41.E K)), (44, (f44.E K)), (45, (f45.E K)), (42, (f42.E K)), (43, (f43.E K))]
theorem f9.tabOK (K : Nat) : SpecOK Try.prog (tabSp (f9.tab K)) := tab_ok ((tab_cons (f37.ok K) (tab_cons (f38.ok K) (tab_cons (f39.ok K) (tab_cons (f40.ok K) (tab_cons (f41.ok K) (tab_cons (f44.ok K) (tab_cons (f45.ok K) (tab_cons (f42.ok K) (tab_cons (f43.ok K) tab_nil))))))))))
theorem f9.s0.eq (K : Nat) (rec : f9.Ty0 → Option ((f9.Ty2) ⊕ (List Int))) (x : f9.Ty0) : f9.s0 K rec x = roundL (getA tys) (tabSp (f9.tab K)) 63 2 (f9.lp K) 400 f9.s0.b f9.s0.h f9.s0.ho f9.s0.shp f9.s0.inX f9.s0.inY rec x := by kernel_rfl
theorem f9.s0.lok (K : Nat) : LoopsOK Try.prog 63 2 (f9.lp K) f9.s0.b := loops_ok (by
  have h : loopsIn (f9.lp K) f9.s0.b = [] := by kernel_rfl
  rw [h]; simp)
theorem f9.s0.ok (K : Nat) : SummOK Try.prog 63 2 (summOf (iter (f9.s0 K) K) f9.s0.inX f9.s0.des) f9.s0.b :=
  loop_ok mix tys_ok (f9.tabOK K) (h := f9.s0.h) (ho := f9.s0.ho) (shp := f9.s0.shp) (inX := f9.s0.inX) (des := f9.s0.des) (out := f9.s0.out) (inY := f9.s0.inY) (fuel := 400)
    (by intro st x h; unfold f9.s0.inX at h; split at h <;> simp at h; subst h; rfl)
    (by intro e st y h; unfold f9.s0.inY at h; split at h <;> simp at h <;> subst h <;> rfl)
    f9.s0.desOK (f9.s0.lok K) (f9.s0 K) (f9.s0.eq K) K
theorem f9.loops (K : Nat) : LoopsOK Try.prog 63 2 (f9.lp K) f9.c := loops_ok (by
  have h : loopsIn (f9.lp K) f9.c = [(0, f9.s0.b)] := by kernel_rfl
  rw [h]
  intro p hp
  simp only [List.mem_cons, List.not_mem_nil, or_false] at hp
  rcases hp with rfl
  · exact ⟨_, rfl, (f9.s0.ok K)⟩)
def f9.T (K : Nat) (a0 : List Int) (a1_0 : List Int) (a1_1 : List Int) (a1_2 : List Int) (a2 : Nat) (m0 : List Int) : Option (f9.Ty2) :=
  bif (decide (((a2 : Nat) : Int) > 200)) then
    (f37.F K ()).bind fun y3 =>
    some (y3, m0)
  else
    (f38.F K a0).bind fun y4 =>
    (f39.F K a0).bind fun y5 =>
    (iter (f9.s0 K) K (a2, 0, m0, a1_0, a1_1, a1_2, y4.1, y4.2.1, y4.2.2, y5.1, y5.2)).bind fun y25 =>
    alt (fun y26 =>
      some (y26.1, y26.2)) (fun y27 =>
      (f37.F K ()).bind fun y28 =>
      some (y28, y27)) y25
def f9.F (K : Nat) (x : f9.Ty1) : Option (f9.Ty2) := f9.T K x.1 x.2.1 x.2.2.1 x.2.2.2.1 x.2.2.2.2.1 x.2.2.2.2.2
def f9.av (x : f9.Ty1) : List VV := [.agg [.ints .u8 32 x.1], .agg [.ints .u64 4 x.2.1, .ints .u64 4 x.2.2.1, .ints .u64 4 x.2.2.2.1], .vw true 0 0 x.2.2.2.2.1 1]
def f9.bl (x : f9.Ty1) : List (Nat × Blk) := [(0, ([], 0, .rb x.2.2.2.2.2))]
def f9.inA : VS → Option (f9.Ty1)
  | ⟨[(0, .agg [.ints .u8 32 a0]), (1, .agg [.ints .u64 4 a1_0, .ints .u64 4 a1_1, .ints .u64 4 a1_2]), (2, .vw true 0 0 a2 1)], [(0, ([], 0, .rb m0))], 2⟩ => some (a0, a1_0, a1_1, a1_2, a2, m0)
  | _ => none
def f9.o0 (y : f9.Ty2) : VS := ⟨[(0, .bool y.1)], [(0, ([], 0, .rb y.2))], 2⟩
def f9.des : ∀ α : Type, (f9.Ty2) → (VS → Option α) → Option α := (dv1 f9.o0)
def f9.out : f9.Ty2 → VS := f9.o0
def f9.inR : VS → Option (f9.Ty2)
  | ⟨[(0, .bool y)], [(0, ([], 0, .rb z0))], 2⟩ => some (y, z0)
  | _ => none
noncomputable def f9.E (K : Nat) : Entry := genE 2 f9.inA (f9.F K) f9.des
theorem f9.eq (K : Nat) (x : f9.Ty1) : f9.F K x = xrun (getA tys) (tabSp (f9.tab K)) Try.f9.ntmps 2 (f9.lp K) 400 f9.c ⟨initL 0 (f9.av x), f9.bl x, 2⟩ (contF (getA tys) 2 Try.f9.results.toList f9.inR) := by kernel_rfl
theorem f9.ok (K : Nat) : EntryOK Try.prog 9 (f9.E K) :=
  gen_ok mix tys_ok (f9.tabOK K) Try.func9 (by kernel_rfl : Try.f9.body = some f9.c) (by kernel_rfl) (f9.loops K) (av := f9.av) (bl := f9.bl) (out := f9.out) (fuel := 400)
    (by intro s x h; unfold f9.inA at h; split at h <;> simp at h; subst h; rfl) (fun _ => Nat.le_of_ble_eq_true rfl)
    (by intro s y h; unfold f9.inR at h; split at h <;> simp at h <;> subst h <;> rfl) (fun _ _ _ => rfl) (f9.eq K)
end Go.Proofs

namespace Go.Proofs
open Go.VM
theorem f60.spec (K : Nat) (name : ByteArray) (n0 : Nat) (l0 : List Int) (n1 : Nat) (l1 : List Int) (hs : name.size ≤ 1000) (e0 : l0.length = n0) (o0 : octets l0) (z0 : n0 ≤ 1000) (e1 : l1.length = n1) (o1 : octets l1) (z1 : n1 ≤ 1000) (hK : 10000 < K) :
    f60.F K (name, n0, n1, n0, l0, n1, l1) = some ((Sh.cut (strL name) [l0, l1]).length, n0, n1, n0, l0, n1, l1, (Sh.cut (strL name) [l0, l1]).length, Sh.cut (strL name) [l0, l1]) := by
  have hnl := strL_length name
  have hM : Sh.cut (strL name) [l0, l1] = Sh.frame (strL name) ++ be 4 2 ++ Sh.frame l0 ++ Sh.frame l1 := by
    simp only [Sh.cut, List.length_cons, List.length_nil, List.flatMap_cons, List.flatMap_nil, List.append_nil, List.append_assoc]
  have f0 := frame_length (strL name)
  rw [hnl] at f0
  simp only [f60.F, f60.T]
  have a0 := f94.spec K 0 name.size [] (strL name) rfl hnl (by omega) (by omega) (by omega)
  rw [Nat.zero_add, List.nil_append] at a0
  rw [Nat.zero_add, ble_true (Nat.le_refl name.size), Bool.and_self, Bool.and_self, cond_t, subI_self _ hnl, a0, bind_s]
  dsimp only
  have a1 := f75.spec K (4 + name.size) 2 (Sh.frame (strL name)) f0 (by omega) (by omega) (by omega)
  rw [Nat.zero_add, ble_true (Nat.le_refl _), Bool.and_self, Bool.and_self, cond_t, subI_self _ f0, show f75.F K (4 + name.size, 2, 4, 4 + name.size, Sh.frame (strL name)) = _ from a1, bind_s]
  dsimp only
  have M0 : (Sh.frame (strL name) ++ be 4 2).length = 4 + name.size + 4 := by rw [List.length_append, f0, be_length]
  have b0 := f94.spec K (4 + name.size + 4) n0 (Sh.frame (strL name) ++ be 4 2) l0 M0 e0 (by omega) (by omega) (by omega)
  rw [Nat.zero_add, ble_true (Nat.le_refl (4 + name.size + 4)), Nat.zero_add, ble_true (Nat.le_refl n0), Bool.and_self, Bool.and_self, Bool.and_self, cond_t, subI_self _ M0, subI_self _ e0, b0, bind_s]
  dsimp only
  have M1 : (Sh.frame (strL name) ++ be 4 2 ++ Sh.frame l0).length = 4 + name.size + 4 + (4 + n0) := by rw [List.length_append, M0, frame_length, e0]
  have b1 := f94.spec K (4 + name.size + 4 + (4 + n0)) n1 (Sh.frame (strL name) ++ be 4 2 ++ Sh.frame l0) l1 M1 e1 (by omega) (by omega) (by omega)
  rw [Nat.zero_add, ble_true (Nat.le_refl (4 + name.size + 4 + (4 + n0))), Nat.zero_add, ble_true (Nat.le_refl n1), Bool.and_self, Bool.and_self, Bool.and_self, cond_t, subI_self _ M1, subI_self _ e1, b1, bind_s]
  dsimp only
  have M2 : (Sh.frame (strL name) ++ be 4 2 ++ Sh.frame l0 ++ Sh.frame l1).length = 4 + name.size + 4 + (4 + n0) + (4 + n1) := by rw [List.length_append, M1, frame_length, e1]
  rw [hM, M2]
theorem f25.spec (K : Nat) (name : ByteArray) (n0 : Nat) (l0 : List Int) (n1 : Nat) (l1 : List Int) (hs : name.size ≤ 1000) (e0 : l0.length = n0) (o0 : octets l0) (z0 : n0 ≤ 1000) (e1 : l1.length = n1) (o1 : octets l1) (z1 : n1 ≤ 1000) (hK : 10000 < K) :
    f25.F K (name, n0, n1, n0, l0, n1, l1) = some (Sh.sha (strL name) [l0, l1], n0, n1, n0, l0, n1, l1) := by
  have hnl := strL_length name
  have hM : Sh.cut (strL name) [l0, l1] = Sh.frame (strL name) ++ be 4 2 ++ Sh.frame l0 ++ Sh.frame l1 := by
    simp only [Sh.cut, List.length_cons, List.length_nil, List.flatMap_cons, List.flatMap_nil, List.append_nil, List.append_assoc]
  have ho : octets (Sh.cut (strL name) [l0, l1]) := by
    rw [hM]
    exact octets_append (octets_append (octets_append (frame_octets (strL_octets name)) (be_octets _ _)) (frame_octets o0)) (frame_octets o1)
  have hlen : (Sh.cut (strL name) [l0, l1]).length ≤ 100000 := by
    rw [hM]
    simp only [List.length_append, frame_length, be_length, hnl]
    omega
  simp only [f25.F, f25.T]
  rw [Nat.zero_add, ble_true (Nat.le_refl n0), Nat.zero_add, ble_true (Nat.le_refl n1), Bool.and_self, Bool.and_self, Bool.and_self, cond_t, subI_self _ e0, subI_self _ e1,
    f60.spec K name n0 l0 n1 l1 hs e0 o0 z0 e1 o1 z1 hK, bind_s]
  dsimp only
  rw [Nat.zero_add, ble_true (Nat.le_refl _), Bool.and_self, Bool.and_self, cond_t, subI_self _ rfl, f52.spec K _ _ rfl ho (by omega) (by omega), bind_s]
  rfl
theorem f16.pads (K n p r : Nat) (k l m z : List Int) (hk : k.length = n) (hn : n ≤ 64) (hK : 100 < K) :
    iter (f16.s0 K) K (n, n, k, p, r, p, l, r, m, z, n, k) = some (64, n, k, p, r, p, l, r, m, z, 64, padT k 64) := by
  have hl : ∀ i, (k ++ List.replicate i (0 : Int)).length = n + i := fun i => by simp [hk]
  have := iter_for (stp := f16.s0 K) (N := 64 - n) (fun i => (n + i, n, k, p, r, p, l, r, m, z, n + i, k ++ List.replicate i 0)) (y := some (64, n, k, p, r, p, l, r, m, z, 64, padT k 64)) ?_ ?_ (show 64 - n < K by omega)
  · simpa using this
  · intro i hi rec
    simp only [f16.s0, f16.s0t]
    rw [decide_eq_true (show ((n + i : Nat) : Int) < 64 by omega), cond_t, ble_true (Nat.le_refl _), fitB_true (by omega), Bool.and_self, cond_t, padT_self _ (hl i), List.append_assoc, show ([0] : List Int) = List.replicate 1 0 from rfl, List.replicate_append_replicate]
    rfl
  · intro rec
    simp only [f16.s0, f16.s0t]
    rw [decide_eq_false (show ¬ ((n + (64 - n) : Nat) : Int) < 64 by omega), cond_f, show n + (64 - n) = 64 by omega]
    congr 12
    refine list_getD (by rw [hl, padT_length]; omega) fun i hi => ?_
    rw [hl] at hi
    rw [getD_padT, if_pos (by omega)]
    simp only [List.getD_eq_getElem?_getD, List.getElem?_append]
    by_cases h : i < k.length
    · rw [if_pos h]
    · rw [if_neg h, List.getElem?_eq_none (show k.length ≤ i by omega), List.getElem?_replicate]
      split <;> rfl
theorem f16.both (K n p r : Nat) (k l m z q : List Int) (hq : q.length = 64) (hK : 100 < K) :
    iter (f16.s2 K) K (64, 0, 0, 0, n, k, p, r, p, l, r, m, z, 64, q, 0, [], 0, []) = some (64, 64, n, k, p, r, p, l, r, m, z, 64, Sh.xr 54 q, 64, Sh.xr 92 q) := by
  have ht : ∀ y i, i ≤ 64 → (Sh.xr y (q.take i)).length = i := fun y i hi => by rw [xr_length, List.length_take]; omega
  have := iter_for (stp := f16.s2 K) (N := 64) (fun i => (64, i, i, (i : Int), n, k, p, r, p, l, r, m, z, 64, q, i, Sh.xr 54 (q.take i), i, Sh.xr 92 (q.take i))) (y := some (64, 64, n, k, p, r, p, l, r, m, z, 64, Sh.xr 54 q, 64, Sh.xr 92 q)) ?_ ?_ (show 64 < K by omega)
  · exact this
  · intro i hi rec
    simp only [f16.s2, f16.s2t]
    have e2 : q.take (i + 1) = q.take i ++ [q.getD i 0] := by
      rw [List.take_add_one, List.getElem?_eq_getElem (by omega)]; simp [List.getD_eq_getElem?_getD, show i < q.length by omega]
    have e3 : ∀ y, Sh.xr y (q.take (i + 1)) = Sh.xr y (q.take i) ++ [bits .xor .u8 (q.getD i 0) y] := fun y => by rw [e2, Sh.xr, List.map_append]; rfl
    rw [decide_eq_true (show ((i : Nat) : Int) < 64 by omega), cond_t, decide_eq_true (show (0 : Int) ≤ (i : Int) ∧ (i : Int) < ((64 : Nat) : Int) by omega), Int.toNat_natCast, Nat.zero_add, show Nat.blt i 64 = true by simp [Nat.blt_eq]; omega, Bool.and_self, cond_t, cond_t,
      ble_true (Nat.le_refl i), fitB_true (by omega), Bool.and_self, cond_t, cond_t, cond_t, cond_t, padT_self _ (ht 54 i (by omega)), padT_self _ (ht 92 i (by omega)), ← e3, ← e3, wrap_i _ (by omega) (by omega)]
    rfl
  · intro rec
    simp only [f16.s2, f16.s2t]
    rw [decide_eq_false (show ¬ ((64 : Nat) : Int) < 64 by omega), cond_f, List.take_of_length_le (by omega)]
theorem f16.spec (K n p r : Nat) (k l m : List Int) (hk : k.length = n) (hn : n ≤ 64) (hl : l.length = p) (ol : octets l) (hm : m.length = r) (om : octets m) (hp : p ≤ 1000) (hr : r ≤ 1000) (hK : 1000 < K) :
    f16.F K (n, n, k, p, r, p, l, r, m) = some (Sh.mac k (l ++ m), n, k, p, r, p, l, r, m) := by
  simp only [f16.F, f16.T]
  rw [Nat.zero_add, ble_true (Nat.le_refl n), fitB_true (by omega), Bool.and_self, cond_t, decide_eq_false (show ¬ ((n : Nat) : Int) > 64 by omega), cond_f, subI_self k hk,
    f16.pads K n p r k l m _ hk hn (by omega), bind_s]
  simp only []
  rw [f16.both K n p r k l m _ _ (padT_length k 64) (by omega), bind_s]
  simp only [Nat.zero_add]
  have x1 : (Sh.xr 54 (padT k 64)).length = 64 := by rw [xr_length, padT_length]
  have x2 : (Sh.xr 92 (padT k 64)).length = 64 := by rw [xr_length, padT_length]
  have m1 : (Sh.xr 54 (padT k 64) ++ l).length = 64 + p := by rw [List.length_append, x1, hl]
  have m3 : (Sh.xr 54 (padT k 64) ++ l ++ m).length = 64 + p + r := by rw [List.length_append, m1, hm]
  have m2 : ∀ s, (Sh.xr 92 (padT k 64) ++ Sh.sum s).length = 64 + 32 := fun s => by rw [List.length_append, x2, sum_length]
  rw [ble_true (Nat.le_refl p), ble_true (Nat.le_refl 64), Bool.and_self, fitB_true (by omega), Bool.and_self, cond_t, ble_true (Nat.le_refl r), ble_true (Nat.le_refl (64 + p)), Bool.and_self, fitB_true (by omega), Bool.and_self, cond_t, ble_true (Nat.le_refl (64 + p + r)), Bool.and_self, Bool.and_self, cond_t,
    subI_self l hl, subI_self m hm, padT_self _ x1, padT_self l hl, padT_self m hm, padT_self _ m1, subI_self _ m3,
    f52.spec K (64 + p + r) _ m3 (octets_append (octets_append (xr_octets _ _) ol) om) (by omega) (by omega), bind_s]
  simp only []
  rw [fitB_true (by omega), Bool.and_self, cond_t, ble_true (Nat.le_refl (64 + 32)), Bool.and_self, Bool.and_self, cond_t, subI_self _ (sum_length _), padT_self _ x2, padT_self _ (sum_length _), subI_self _ (m2 _),
    f52.spec K (64 + 32) _ (m2 _) (octets_append (xr_octets _ _) (sum_octets _)) (by omega) (by omega), bind_s]
  simp only [Sh.mac, Sh.key, if_neg (show ¬ 64 < k.length by omega), List.append_assoc]
theorem f75.spec8 (K a x : Nat) (l : List Int) (hl : l.length = a) (hx : x < 18446744073709551616) (ha : a ≤ 10000000000) (hK : 10 < K) :
    f75.F K (a, (x : Int), 8, a, l) = some (a + 8, a, l, a + 8, l ++ be 8 x) := by
  simp only [f75.F, f75.T]
  have e := f96.spec 8 K x hx (by omega) (by omega)
  rw [if_neg (by omega)] at e
  rw [show minE 8 8 = ((8 : Nat) : Int) from rfl, e, bind_s, altr]
  dsimp only
  rw [Nat.zero_add, Nat.zero_add, ble_true (Nat.le_refl a), ble_true (Nat.le_refl 8), Bool.and_self, Bool.and_self, Bool.and_self, cond_t, subI_self _ (be_length 8 x), subI_self _ hl, f95.spec K a 8 l _ hl (be_length _ _) (by omega), bind_s]
theorem f43.spec (K n : Nat) (s : List Int) (hs : s.length = 32) (_so : octets s) (hn : n < 18446744073709551616) (hK : 1000 < K) : f43.F K (s, (n : Int)) = some (Dr.sum s n, s, ((up64 n : Nat) : Int)) := by
  simp only [f43.F, f43.T]
  have e : f75.F K (0, (n : Int), 8, 0, []) = some (8, 0, [], 8, be 8 n) := f75.spec8 K 0 n [] rfl hn (by omega) (by omega)
  rw [e, bind_s]
  simp only []
  have ow : octets [100, 114, 97, 119] := by intro x hx; simp only [List.mem_cons, List.not_mem_nil, or_false] at hx; omega
  rw [Nat.zero_add, ble_true (Nat.le_refl 8), Bool.and_self, Bool.and_self, cond_t, subI_self s hs, subI_self _ (be_length 8 n), f16.spec K 32 4 8 s [100, 114, 97, 119] (be 8 n) hs (by omega) rfl ow (be_length _ _) (be_octets _ _) (by omega) (by omega) hK, bind_s]
  simp only []
  rw [show ((n : Nat) : Int) + 1 = ((n + 1 : Nat) : Int) by omega, wrap_nat]
  rfl
theorem f23.spec (Q : Nat) (name : ByteArray) (n0 : Nat) (l0 : List Int) (hs : name.size ≤ 1000) (hQ : Q < 2 ^ 256) (h0 : 0 < Q) (e0 : l0.length = n0) (o0 : octets l0) (z0 : n0 ≤ 1000) :
    f23.F 100000 (num Q, name, n0, n0, l0) = some (num (Sh.number Q (strL name) [l0]), 0, n0, n0, l0) := by
  have b1 := tv_lt 32 _ (sha_length (strL name) [l0, [1]]) (sha_octets _ _)
  have b2 := tv_lt 32 _ (sha_length (strL name) [l0, [0]]) (sha_octets _ _)
  rw [pow_bytes] at b1 b2
  have w0 : octets [(0 : Int)] := by intro x hx; rw [List.mem_singleton] at hx; omega
  have w1 : octets [(1 : Int)] := by intro x hx; rw [List.mem_singleton] at hx; omega
  simp only [f23.F, f23.T]
  rw [zero_of Q hQ, decide_eq_false (by omega), cond_f, Nat.zero_add, ble_true (Nat.le_refl n0), Bool.and_self, Bool.and_self, cond_t, subI_self _ e0,
    f25.spec 100000 name n0 l0 1 [0] hs e0 o0 z0 rfl w0 (by omega) (by omega), bind_s, cond_t, f25.spec 100000 name n0 l0 1 [1] hs e0 o0 z0 rfl w1 (by omega) (by omega), bind_s]
  simp only []
  rw [subI_self _ (sha_length _ _), subI_self _ (sha_length _ _), f55.spec _ (sha_length _ _) (sha_octets _ _), bind_s, f55.spec _ (sha_length _ _) (sha_octets _ _), bind_s]
  simp only []
  rw [f56.spec _ _ Q b1 b2 hQ, if_neg (by omega), bind_s]
  simp only [Sh.number, List.cons_append, List.nil_append]
theorem f41.spec (p g : List Int) (Q : Nat) (hQ : Q < 2 ^ 256) (h : 3 ≤ Q) (n : Nat) (hn : n < 18446744073709551616) (s : List Int) (hs : s.length = 32) (so : octets s) :
    f41.F 100000 (p, num Q, g, s, (n : Int)) = some (num (Dr.num Q s n), 0, s, ((up64 n : Nat) : Int)) := by
  simp only [f41.F, f41.T]
  rw [show ([3, 0, 0, 0] : List Int) = num 3 from rfl, show ([1, 0, 0, 0] : List Int) = num 1 from rfl, f71.spec 100000 Q 3 hQ (by decide) (by omega), bind_s, cmp_three, decide_eq_false (by omega), cond_f, f43.spec 100000 n s hs so hn (by omega), bind_s, f72.spec 100000 Q 1 hQ (by decide) (by omega), bind_s]
  simp only []
  have e1 : num (Q + 2 ^ 256 - 1) = num (Q - 1) := by
    rw [← num_mod (Q + 2 ^ 256 - 1), show Q + 2 ^ 256 - 1 = (Q - 1) + 2 ^ 256 by omega, Nat.add_mod_right, num_mod]
  rw [e1, subI_self (Dr.sum s n) (show (Dr.sum s n).length = 32 from mac_length _ _), f23.spec (Q - 1) f41.k0 32 _ (by decide) (by omega) (by omega) (show (Dr.sum s n).length = 32 from mac_length _ _) (show octets (Dr.sum s n) from mac_octets _ _) (by omega), bind_s]
  simp only []
  rw [f73.spec 100000 _ 1 (by omega), bind_s]
  rfl
theorem f41.small (p g : List Int) (Q : Nat) (hQ : Q < 2 ^ 256) (h : Q < 3) (n : Int) (s : List Int) : f41.F 100000 (p, num Q, g, s, n) = some ([0, 0, 0, 0], 1, s, n) := by
  simp only [f41.F, f41.T]
  rw [show ([3, 0, 0, 0] : List Int) = num 3 from rfl, f71.spec 100000 Q 3 hQ (by decide) (by omega), bind_s, cmp_three, decide_eq_true h, cond_t]
def Dr.many (Q : Nat) (l : List Int) : Nat → Nat
  | 0 => 0
  | i + 1 => if (List.getD l i 0 != 0) = true ∧ Q < 3 then Dr.many Q l i else Dr.many Q l i + 1
theorem Dr.many_le (Q : Nat) (l : List Int) : ∀ i, Dr.many Q l i ≤ i
  | 0 => Nat.le_refl _
  | i + 1 => by have := Dr.many_le Q l i; unfold Dr.many; split <;> omega
theorem f9.holds (s : List Int) (hs : s.length = 32 ∧ ∀ x ∈ s, 0 ≤ x ∧ x < 256) (P Q G : Nat) (_hP : P < 2 ^ 256) (hQ : Q < 2 ^ 256) (_hG : G < 2 ^ 256) (l : List Int) : f9.F 100000 (s, num P, num Q, num G, l.length, l) = some (true, l) := by
  simp only [f9.F, f9.T]
  by_cases h : 200 < l.length
  · rw [decide_eq_true (show ((l.length : Nat) : Int) > 200 by omega), cond_t, f37.holds, bind_s]
  rw [decide_eq_false (show ¬ ((l.length : Nat) : Int) > 200 by omega), cond_f, show f38.F 100000 s = some (0, 1, s) from rfl, bind_s, show f39.F 100000 s = some (s, 0) from rfl, bind_s]
  simp only []
  have e45 : ∀ (t : List Int) (n : Int), f45.F 100000 (t, n) = some (n, t, n) := fun t n => rfl
  have := iter_for (stp := f9.s0 100000) (N := l.length) (fun i => (l.length, (i : Int), l, num P, num Q, num G, ((Dr.many Q l i : Nat) : Int), (1 : Int), s, s, ((Dr.many Q l i : Nat) : Int))) (y := some (.inr l)) ?_ ?_ (show l.length < 100000 by omega)
  · rw [show iter (f9.s0 100000) 100000 (l.length, 0, l, num P, num Q, num G, 0, 1, s, s, 0) = _ from this, bind_s, altr, f37.holds, bind_s]
  · intro i hi rec
    have hm := Dr.many_le Q l i
    have hnext : Dr.many Q l (i + 1) = if (List.getD l i 0 != 0) = true ∧ Q < 3 then Dr.many Q l i else Dr.many Q l i + 1 := rfl
    simp only [f9.s0, f9.s0t]
    rw [hnext]
    generalize Dr.many Q l i = m at hm
    have hnx := f42.next 100000 m s hs.1 hs.2 (by omega) (by omega)
    rw [up_one m (by omega)] at hnx
    have hrx := f43.spec 100000 m s hs.1 hs.2 (by omega) (by omega)
    rw [up_one m (by omega)] at hrx
    rw [decide_eq_true (show (i : Int) < ((l.length : Nat) : Int) by omega), cond_t, decide_eq_true (show (0 : Int) ≤ (i : Int) ∧ (i : Int) < ((l.length : Nat) : Int) by omega), cond_t, Int.toNat_natCast, Nat.zero_add, show Nat.blt i l.length = true by simp [Nat.blt_eq]; omega, cond_t]
    cases hc : (List.getD l i 0 != 0)
    · rw [cond_f, hnx, bind_s, hrx, bind_s]
      simp only []
      rw [eqL_refl, Bool.and_self, Bool.not_true, cond_f, f44.spec, bind_s, e45, bind_s]
      simp only []
      rw [show ((((m + 1 : Nat) : Int)) != ((m + 1 : Nat) : Int)) = false by simp, cond_f, wrap_i _ (by omega) (by omega), if_neg (by simp)]
      rfl
    · rw [cond_t]
      by_cases h3 : Q < 3
      · rw [f40.small _ _ Q hQ h3, bind_s, f41.small _ _ Q hQ h3, bind_s]
        simp only []
        rw [eqL_refl, Bool.and_self, Bool.not_true, cond_f, show ((1 : Int) != 1) = false from rfl, cond_f, f44.spec, bind_s, e45, bind_s]
        simp only []
        rw [show ((((m : Nat) : Int)) != ((m : Nat) : Int)) = false by simp, cond_f, wrap_i _ (by omega) (by omega), if_pos ⟨trivial, h3⟩]
        rfl
      · have hex := f40.spec (num P) (num G) Q hQ (by omega) m (by omega) s hs.1 hs.2
        rw [up_one m (by omega)] at hex
        have hrex := f41.spec (num P) (num G) Q hQ (by omega) m (by omega) s hs.1 hs.2
        rw [up_one m (by omega)] at hrex
        rw [hex, bind_s, hrex, bind_s]
        simp only []
        rw [eqL_refl, Bool.and_self, Bool.not_true, cond_f, show ((0 : Int) != 0) = false from rfl, cond_f, f44.spec, bind_s, e45, bind_s]
        simp only []
        rw [show ((((m + 1 : Nat) : Int)) != ((m + 1 : Nat) : Int)) = false by simp, cond_f, wrap_i _ (by omega) (by omega), if_neg (by omega)]
        rfl
  · intro rec
    simp only [f9.s0, f9.s0t]
    rw [decide_eq_false (show ¬ ((l.length : Nat) : Int) < ((l.length : Nat) : Int) by omega), cond_f]
end Go.Proofs
