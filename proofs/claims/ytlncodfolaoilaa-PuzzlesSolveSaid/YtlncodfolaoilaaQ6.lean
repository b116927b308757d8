/- Plain laws: lemmas that hold with no condition but those that each states. -/
import Derived.Test.YtlncodfolaoilaaQ2
import Derived.Test.YtlncodfolaoilaaQ5
import Derived.Laws.MathBits
namespace Go.Proofs
open Go.VM
def f91.T (_K : Nat) (a0 : Int) (a1 : Int) : Option (Int) :=
  let v2 := bits .and .u64 (IntKind.wrap .u64 a1) 31
  bif decide (0 ≤ v2) then
    let v4 := IntKind.wrap .u64 (32 - v2)
    bif decide (0 ≤ v4) then
      some (bits .or .u32 (shiftI .shl .u32 a0 v2) (shiftI .shr .u32 a0 v4))
    else
      none
  else
    none
def f91.F (K : Nat) (x : Int × Int) : Option (Int) := f91.T K x.1 x.2
def f91.av (x : Int × Int) : List VV := [.int .u32 x.1, .int .i64 x.2]
def f91.bl (_x : Int × Int) : List (Nat × Blk) := []
def f91.inA : VS → Option (Int × Int)
  | ⟨[(0, .int .u32 a0), (1, .int .i64 a1)], [], 0⟩ => some (a0, a1)
  | _ => none
def f91.o0 (y : Int) : VS := ⟨[(0, .int .u32 y)], [], 0⟩
def f91.inR : VS → Option (Int)
  | ⟨[(0, .int .u32 y)], [], 0⟩ => some y
  | _ => none
noncomputable def f91.E (K : Nat) : Entry := genE 0 f91.inA (f91.F K) (dv1 f91.o0)
theorem f91.ok (K : Nat) : EntryOK Try.prog 91 (f91.E K) := gen_ok mix tys_ok (tab_ok ( tab_nil)) Try.func91 (c := bodyOf Try.f91) (by kernel_rfl) (by kernel_rfl) (loops_none (lp := lpNone) (by kernel_rfl)) (av := f91.av) (bl := f91.bl) (inR := f91.inR) (out := f91.o0) (fuel := 400)
  (by intro s x h; unfold f91.inA at h; split at h <;> simp at h; subst h; rfl) (fun _ => Nat.le_of_ble_eq_true rfl)
  (by intro s y h; unfold f91.inR at h; split at h <;> simp at h <;> subst h <;> rfl) (fun _ _ _ => rfl) (fun _ => by kernel_rfl)
end Go.Proofs

namespace Go.Proofs
open Go.VM
abbrev f78.Ty0 := Int × Int × Nat × Int × Int × Nat × List Int
abbrev f78.Ty1 := Int × Nat × Nat × List Int
abbrev f78.Ty2 := Int × Nat × List Int
noncomputable def f78.c : Code := bodyOf Try.f78
def f78.s0t (K : Nat) (rec : f78.Ty0 → Option (f78.Ty2)) (t0 : Int) (t5 : Int) (t8 : Nat) (t9 : Int) (t10 : Int) (b0_0 : Nat) (b0_1 : List Int) : Option (f78.Ty2) :=
  bif (decide (t10 < t9)) then
    bif decide (0 ≤ t10 ∧ t10 < ((t8 : Nat) : Int)) then
      let v3 := 0 + (Int.toNat t10)
      bif Nat.blt v3 b0_0 then
        (f91.F K (t0, (IntKind.wrap .i64 (0 - (List.getD b0_1 v3 0))))).bind fun y6 =>
        rec (t0, (bits .xor .u32 t5 y6), t8, t9, (IntKind.wrap .i64 (t10 + 1)), b0_0, b0_1)
      else
        none
    else
      none
  else
    some (t5, b0_0, b0_1)
def f78.s0 (K : Nat) (rec : f78.Ty0 → Option (f78.Ty2)) (x : f78.Ty0) : Option (f78.Ty2) := f78.s0t K rec x.1 x.2.1 x.2.2.1 x.2.2.2.1 x.2.2.2.2.1 x.2.2.2.2.2.1 x.2.2.2.2.2.2
noncomputable def f78.s0.b : Code := (findLoop 0 f78.c).getD .skip
def f78.s0.h : Hint := { lv := [0, 5, 8, 9, 10] }
def f78.s0.ho : Hint := { lv := [5] }
def f78.s0.shp (x : f78.Ty0) : VS := ⟨[(0, .int .u32 x.1), (5, .int .u32 x.2.1), (8, .vw true 0 0 x.2.2.1 1), (9, .int .i64 x.2.2.2.1), (10, .int .i64 x.2.2.2.2.1)], [(0, ([.ints .i64 x.2.2.2.2.2.1 x.2.2.2.2.2.2], 0, .ro))], 2⟩
def f78.s0.inX : VS → Option (f78.Ty0)
  | ⟨[(0, .int .u32 t0), (5, .int .u32 t5), (8, .vw true 0 0 t8 1), (9, .int .i64 t9), (10, .int .i64 t10)], [(0, ([.ints .i64 b0_0 b0_1], 0, .ro))], 2⟩ => some (t0, t5, t8, t9, t10, b0_0, b0_1)
  | _ => none
def f78.s0.o0 (y : f78.Ty2) : VS := ⟨[(5, .int .u32 y.1)], [(0, ([.ints .i64 y.2.1 y.2.2], 0, .ro))], 2⟩
def f78.s0.des : ∀ α : Type, (f78.Ty2) → (Ex → VS → Option α) → Option α := (des1 (.exit 0) f78.s0.o0)
def f78.s0.out : f78.Ty2 → Ex × VS := (fun y => (.exit 0, f78.s0.o0 y))
theorem f78.s0.desOK : ∀ α y (k : Ex → VS → Option α), f78.s0.des α y k = k (f78.s0.out y).1 (f78.s0.out y).2 := (fun _ _ _ => rfl)
def f78.s0.inY : Ex → VS → Option (f78.Ty2)
  | .exit 0, ⟨[(5, .int .u32 t5)], [(0, ([.ints .i64 b0_0 b0_1], 0, .ro))], 2⟩ => some (t5, b0_0, b0_1)
  | _, _ => none
def f78.lp (K : Nat) : Nat → Option (Hint × Summ) := tabLp [(0, f78.s0.h, summOf (iter (f78.s0 K) K) f78.s0.inX f78.s0.des)]
noncomputable def f78.tab (K : Nat) : List (Nat × Entry) := [(91, (f91.E K))]
theorem f78.tabOK (K : Nat) : SpecOK Try.prog (tabSp (f78.tab K)) := tab_ok ((tab_cons (f91.ok K) tab_nil))
theorem f78.s0.eq (K : Nat) (rec : f78.Ty0 → Option (f78.Ty2)) (x : f78.Ty0) : f78.s0 K rec x = roundL (getA tys) (tabSp (f78.tab K)) 22 2 (f78.lp K) 400 f78.s0.b f78.s0.h f78.s0.ho f78.s0.shp f78.s0.inX f78.s0.inY rec x := by kernel_rfl
theorem f78.s0.lok (K : Nat) : LoopsOK Try.prog 22 2 (f78.lp K) f78.s0.b := loops_ok (by
  have h : loopsIn (f78.lp K) f78.s0.b = [] := by kernel_rfl
  rw [h]; simp)
theorem f78.s0.ok (K : Nat) : SummOK Try.prog 22 2 (summOf (iter (f78.s0 K) K) f78.s0.inX f78.s0.des) f78.s0.b :=
  loop_ok mix tys_ok (f78.tabOK K) (h := f78.s0.h) (ho := f78.s0.ho) (shp := f78.s0.shp) (inX := f78.s0.inX) (des := f78.s0.des) (out := f78.s0.out) (inY := f78.s0.inY) (fuel := 400)
    (by intro st x h; unfold f78.s0.inX at h; split at h <;> simp at h; subst h; rfl)
    (by intro e st y h; unfold f78.s0.inY at h; split at h <;> simp at h <;> subst h <;> rfl)
    f78.s0.desOK (f78.s0.lok K) (f78.s0 K) (f78.s0.eq K) K
theorem f78.loops (K : Nat) : LoopsOK Try.prog 22 2 (f78.lp K) f78.c := loops_ok (by
  have h : loopsIn (f78.lp K) f78.c = [(0, f78.s0.b)] := by kernel_rfl
  rw [h]
  intro p hp
  simp only [List.mem_cons, List.not_mem_nil, or_false] at hp
  rcases hp with rfl
  · exact ⟨_, rfl, (f78.s0.ok K)⟩)
def f78.T (K : Nat) (a0 : Int) (a1 : Nat) (m0_0 : Nat) (m0_1 : List Int) : Option (f78.Ty2) :=
  (iter (f78.s0 K) K (a0, 0, a1, ((a1 : Nat) : Int), 0, m0_0, m0_1)).bind fun y9 =>
  some (y9.1, y9.2.1, y9.2.2)
def f78.F (K : Nat) (x : f78.Ty1) : Option (f78.Ty2) := f78.T K x.1 x.2.1 x.2.2.1 x.2.2.2
def f78.av (x : f78.Ty1) : List VV := [.int .u32 x.1, .vw true 0 0 x.2.1 1]
def f78.bl (x : f78.Ty1) : List (Nat × Blk) := [(0, ([.ints .i64 x.2.2.1 x.2.2.2], 0, .ro))]
def f78.inA : VS → Option (f78.Ty1)
  | ⟨[(0, .int .u32 a0), (1, .vw true 0 0 a1 1)], [(0, ([.ints .i64 m0_0 m0_1], 0, .ro))], 2⟩ => some (a0, a1, m0_0, m0_1)
  | _ => none
def f78.o0 (y : f78.Ty2) : VS := ⟨[(0, .int .u32 y.1)], [(0, ([.ints .i64 y.2.1 y.2.2], 0, .ro))], 2⟩
def f78.des : ∀ α : Type, (f78.Ty2) → (VS → Option α) → Option α := (dv1 f78.o0)
def f78.out : f78.Ty2 → VS := f78.o0
def f78.inR : VS → Option (f78.Ty2)
  | ⟨[(0, .int .u32 y)], [(0, ([.ints .i64 z0_0 z0_1], 0, .ro))], 2⟩ => some (y, z0_0, z0_1)
  | _ => none
noncomputable def f78.E (K : Nat) : Entry := genE 2 f78.inA (f78.F K) f78.des
theorem f78.eq (K : Nat) (x : f78.Ty1) : f78.F K x = xrun (getA tys) (tabSp (f78.tab K)) Try.f78.ntmps 2 (f78.lp K) 400 f78.c ⟨initL 0 (f78.av x), f78.bl x, 2⟩ (contF (getA tys) 2 Try.f78.results.toList f78.inR) := by kernel_rfl
theorem f78.ok (K : Nat) : EntryOK Try.prog 78 (f78.E K) :=
  gen_ok mix tys_ok (f78.tabOK K) Try.func78 (by kernel_rfl : Try.f78.body = some f78.c) (by kernel_rfl) (f78.loops K) (av := f78.av) (bl := f78.bl) (out := f78.out) (fuel := 400)
    (by intro s x h; unfold f78.inA at h; split at h <;> simp at h; subst h; rfl) (fun _ => Nat.le_of_ble_eq_true rfl)
    (by intro s y h; unfold f78.inR at h; split at h <;> simp at h <;> subst h <;> rfl) (fun _ _ _ => rfl) (f78.eq K)
end Go.Proofs

namespace Go.Proofs
open Go.VM
abbrev f83.Ty0 := Int × Int × Nat × List Int × List Int
abbrev f83.Ty1 := Int × Int × Nat × List Int
abbrev f83.Ty2 := Nat × Int × Nat × List Int
abbrev f83.Ty3 := Int × Nat × List Int
noncomputable def f83.c : Code := bodyOf Try.f83
def f83.s0t (_K : Nat) (rec : f83.Ty0 → Option (f83.Ty3)) (t4 : Int) (t23 : Int) (b0_0 : Nat) (b0_1 : List Int) (b2 : List Int) : Option (f83.Ty3) :=
  bif (decide (t23 < 8)) then
    bif decide (0 ≤ t23 ∧ t23 < 8) then
      rec ((IntKind.wrap .u64 ((IntKind.wrap .u64 (256 * t4)) + (IntKind.wrap .u64 (List.getD b2 (Int.toNat t23) 0)))), (IntKind.wrap .i64 (t23 + 1)), b0_0, b0_1, b2)
    else
      none
  else
    some (t4, b0_0, b0_1)
def f83.s0 (K : Nat) (rec : f83.Ty0 → Option (f83.Ty3)) (x : f83.Ty0) : Option (f83.Ty3) := f83.s0t K rec x.1 x.2.1 x.2.2.1 x.2.2.2.1 x.2.2.2.2
noncomputable def f83.s0.b : Code := (findLoop 0 f83.c).getD .skip
def f83.s0.h : Hint := { lv := [4, 6, 23] }
def f83.s0.ho : Hint := { lv := [4] }
def f83.s0.shp (x : f83.Ty0) : VS := ⟨[(4, .int .u64 x.1), (6, .ptr 2 0), (23, .int .i64 x.2.1)], [(0, ([.ints .u8 x.2.2.1 x.2.2.2.1], 0, .ro)), (2, ([.ints .u8 8 x.2.2.2.2], 151, .norm))], 3⟩
def f83.s0.inX : VS → Option (f83.Ty0)
  | ⟨[(4, .int .u64 t4), (6, .ptr 2 0), (23, .int .i64 t23)], [(0, ([.ints .u8 b0_0 b0_1], 0, .ro)), (2, ([.ints .u8 8 b2], 151, .norm))], 3⟩ => some (t4, t23, b0_0, b0_1, b2)
  | _ => none
def f83.s0.o0 (y : f83.Ty3) : VS := ⟨[(4, .int .u64 y.1)], [(0, ([.ints .u8 y.2.1 y.2.2], 0, .ro))], 2⟩
def f83.s0.des : ∀ α : Type, (f83.Ty3) → (Ex → VS → Option α) → Option α := (des1 (.exit 0) f83.s0.o0)
def f83.s0.out : f83.Ty3 → Ex × VS := (fun y => (.exit 0, f83.s0.o0 y))
theorem f83.s0.desOK : ∀ α y (k : Ex → VS → Option α), f83.s0.des α y k = k (f83.s0.out y).1 (f83.s0.out y).2 := (fun _ _ _ => rfl)
def f83.s0.inY : Ex → VS → Option (f83.Ty3)
  | .exit 0, ⟨[(4, .int .u64 t4)], [(0, ([.ints .u8 b0_0 b0_1], 0, .ro))], 2⟩ => some (t4, b0_0, b0_1)
  | _, _ => none
def f83.lp (K : Nat) : Nat → Option (Hint × Summ) := tabLp [(0, f83.s0.h, summOf (iter (f83.s0 K) K) f83.s0.inX f83.s0.des)]
noncomputable def f83.tab (_K : Nat) : List (Nat × Entry) := []
theorem f83.tabOK (K : Nat) : SpecOK Try.prog (tabSp (f83.tab K)) := tab_ok ( tab_nil)
theorem f83.s0.eq (K : Nat) (rec : f83.Ty0 → Option (f83.Ty3)) (x : f83.Ty0) : f83.s0 K rec x = roundL (getA tys) (tabSp (f83.tab K)) 35 2 (f83.lp K) 400 f83.s0.b f83.s0.h f83.s0.ho f83.s0.shp f83.s0.inX f83.s0.inY rec x := by kernel_rfl
theorem f83.s0.lok (K : Nat) : LoopsOK Try.prog 35 2 (f83.lp K) f83.s0.b := loops_ok (by
  have h : loopsIn (f83.lp K) f83.s0.b = [] := by kernel_rfl
  rw [h]; simp)
theorem f83.s0.ok (K : Nat) : SummOK Try.prog 35 2 (summOf (iter (f83.s0 K) K) f83.s0.inX f83.s0.des) f83.s0.b :=
  loop_ok mix tys_ok (f83.tabOK K) (h := f83.s0.h) (ho := f83.s0.ho) (shp := f83.s0.shp) (inX := f83.s0.inX) (des := f83.s0.des) (out := f83.s0.out) (inY := f83.s0.inY) (fuel := 400)
    (by intro st x h; unfold f83.s0.inX at h; split at h <;> simp at h; subst h; rfl)
    (by intro e st y h; unfold f83.s0.inY at h; split at h <;> simp at h <;> subst h <;> rfl)
    f83.s0.desOK (f83.s0.lok K) (f83.s0 K) (f83.s0.eq K) K
theorem f83.loops (K : Nat) : LoopsOK Try.prog 35 2 (f83.lp K) f83.c := loops_ok (by
  have h : loopsIn (f83.lp K) f83.c = [(0, f83.s0.b)] := by kernel_rfl
  rw [h]
  intro p hp
  simp only [List.mem_cons, List.not_mem_nil, or_false] at hp
  rcases hp with rfl
  · exact ⟨_, rfl, (f83.s0.ok K)⟩)
def f83.T (K : Nat) (a0 : Nat) (a1 : Int) (m0_0 : Nat) (m0_1 : List Int) : Option (f83.Ty1) :=
  bif (decide (a1 < 0)) then
    some (0, 1, m0_0, m0_1)
  else
    bif (decide (a1 > 8)) then
      some (0, 1, m0_0, m0_1)
    else
      bif (decide (((a0 : Nat) : Int) < a1)) then
        some (0, 5, m0_0, m0_1)
      else
        let v5 := IntKind.wrap .i64 (8 - a1)
        bif decide (0 ≤ v5 ∧ v5 ≤ 8) then
          let v6 := bif Nat.beq 8 (Int.toNat v5) then 0 else 0 + (Int.toNat v5)
          let v7 := 8 - (Int.toNat v5)
          bif ((Nat.ble (0 + a0) m0_0 && (Nat.ble (v6 + v7) 8)) && (Nat.beq a0 a0)) then
            (iter (f83.s0 K) K (0, 0, m0_0, m0_1, (spl [0, 0, 0, 0, 0, 0, 0, 0] v6 (Nat.min a0 v7) (subI m0_1 0 a0)))).bind fun y18 =>
            some (y18.1, 0, y18.2.1, y18.2.2)
          else
            none
        else
          none
def f83.F (K : Nat) (x : f83.Ty2) : Option (f83.Ty1) := f83.T K x.1 x.2.1 x.2.2.1 x.2.2.2
def f83.av (x : f83.Ty2) : List VV := [.vw true 0 0 x.1 1, .int .i64 x.2.1]
def f83.bl (x : f83.Ty2) : List (Nat × Blk) := [(0, ([.ints .u8 x.2.2.1 x.2.2.2], 0, .ro))]
def f83.inA : VS → Option (f83.Ty2)
  | ⟨[(0, .vw true 0 0 a0 1), (1, .int .i64 a1)], [(0, ([.ints .u8 m0_0 m0_1], 0, .ro))], 2⟩ => some (a0, a1, m0_0, m0_1)
  | _ => none
def f83.o0 (y : f83.Ty1) : VS := ⟨[(0, .tup [.int .u64 y.1, .int .i64 y.2.1])], [(0, ([.ints .u8 y.2.2.1 y.2.2.2], 0, .ro))], 2⟩
def f83.des : ∀ α : Type, (f83.Ty1) → (VS → Option α) → Option α := (dv1 f83.o0)
def f83.out : f83.Ty1 → VS := f83.o0
def f83.inR : VS → Option (f83.Ty1)
  | ⟨[(0, .tup [.int .u64 y_0, .int .i64 y_1])], [(0, ([.ints .u8 z0_0 z0_1], 0, .ro))], 2⟩ => some (y_0, y_1, z0_0, z0_1)
  | _ => none
noncomputable def f83.E (K : Nat) : Entry := genE 2 f83.inA (f83.F K) f83.des
theorem f83.eq (K : Nat) (x : f83.Ty2) : f83.F K x = xrun (getA tys) (tabSp (f83.tab K)) Try.f83.ntmps 2 (f83.lp K) 400 f83.c ⟨initL 0 (f83.av x), f83.bl x, 2⟩ (contF (getA tys) 2 Try.f83.results.toList f83.inR) := by kernel_rfl
theorem f83.ok (K : Nat) : EntryOK Try.prog 83 (f83.E K) :=
  gen_ok mix tys_ok (f83.tabOK K) Try.func83 (by kernel_rfl : Try.f83.body = some f83.c) (by kernel_rfl) (f83.loops K) (av := f83.av) (bl := f83.bl) (out := f83.out) (fuel := 400)
    (by intro s x h; unfold f83.inA at h; split at h <;> simp at h; subst h; rfl) (fun _ => Nat.le_of_ble_eq_true rfl)
    (by intro s y h; unfold f83.inR at h; split at h <;> simp at h <;> subst h <;> rfl) (fun _ _ _ => rfl) (f83.eq K)
end Go.Proofs

namespace Go.Proofs
open Go.VM
end Go.Proofs

namespace Go.Proofs
open Go.VM
abbrev f41.Ty0 := Nat × Nat × Nat × List Int × Nat × List Int
abbrev f41.Ty1 := Nat × Int × Int × Nat × List Int
def f41.T (K : Nat) (a0 : Nat) (a1 : Int) (a2 : Int) (m0_0 : Nat) (m0_1 : List Int) : Option (f41.Ty0) :=
  bif ((Nat.ble (0 + a0) m0_0 && true) && true) then
    (f63.F K (a0, (maxE 0 (minE 8 a2)), 1, a0, (subI m0_1 0 a0), 1, [a1])).bind fun y2 =>
    some (y2.1, y2.2.1, m0_0, m0_1, y2.2.2.2.2.2.2.1, y2.2.2.2.2.2.2.2)
  else
    none
def f41.F (K : Nat) (x : f41.Ty1) : Option (f41.Ty0) := f41.T K x.1 x.2.1 x.2.2.1 x.2.2.2.1 x.2.2.2.2
def f41.av (x : f41.Ty1) : List VV := [.vw true 0 0 x.1 1, .int .u64 x.2.1, .int .i64 x.2.2.1]
def f41.bl (x : f41.Ty1) : List (Nat × Blk) := [(0, ([.ints .u8 x.2.2.2.1 x.2.2.2.2], 0, .ro))]
def f41.inA : VS → Option (f41.Ty1)
  | ⟨[(0, .vw true 0 0 a0 1), (1, .int .u64 a1), (2, .int .i64 a2)], [(0, ([.ints .u8 m0_0 m0_1], 0, .ro))], 2⟩ => some (a0, a1, a2, m0_0, m0_1)
  | _ => none
def f41.o0 (y : f41.Ty0) : VS := ⟨[(0, .sl 2 0 y.1 y.2.1)], [(0, ([.ints .u8 y.2.2.1 y.2.2.2.1], 0, .ro)), (2, ([.ints .u8 y.2.2.2.2.1 y.2.2.2.2.2], 5, .norm))], 3⟩
def f41.inR : VS → Option (f41.Ty0)
  | ⟨[(0, .sl 2 0 y_0 y_1)], [(0, ([.ints .u8 z0_0 z0_1], 0, .ro)), (2, ([.ints .u8 z2_0 z2_1], 5, .norm))], 3⟩ => some (y_0, y_1, z0_0, z0_1, z2_0, z2_1)
  | _ => none
noncomputable def f41.E (K : Nat) : Entry := genE 2 f41.inA (f41.F K) (dv1 f41.o0)
theorem f41.ok (K : Nat) : EntryOK Try.prog 41 (f41.E K) := gen_ok mix tys_ok (sp := tabSp [(63, (viewE [(0, .u8), (2, .u64)] (f63.E K)))]) (tab_ok ((tab_cons (view_ok (f63.ok K)) tab_nil))) Try.func41 (c := bodyOf Try.f41) (by kernel_rfl) (by kernel_rfl) (loops_none (lp := lpNone) (by kernel_rfl)) (av := f41.av) (bl := f41.bl) (inR := f41.inR) (out := f41.o0) (fuel := 400)
  (by intro s x h; unfold f41.inA at h; split at h <;> simp at h; subst h; rfl) (fun _ => Nat.le_of_ble_eq_true rfl)
  (by intro s y h; unfold f41.inR at h; split at h <;> simp at h <;> subst h <;> rfl) (fun _ _ _ => rfl) (fun _ => by kernel_rfl)
end Go.Proofs

namespace Go.Proofs
open Go.VM
theorem low_be : ∀ n x : Nat, x < 18446744073709551616 → Rw.low n (x : Int) = be n x
  | 0, _, _ => rfl
  | n + 1, x, h => by
    have e : Rw.nxt (x : Int) = ((x / 256 : Nat) : Int) := by
      rw [Rw.nxt, show (256 : Int) = ((256 : Nat) : Int) from rfl, tdiv_nat, wrap_u _ (by omega) (by omega)]
    rw [Rw.low, e, low_be n (x / 256) (by omega), be, Rw.byt]
    rfl
theorem octets_pad {l : List Int} (h : octets l) (n : Nat) : octets (padT l n) := by
  intro x hx
  simp only [padT, List.mem_map, List.mem_range] at hx
  obtain ⟨i, _, rfl⟩ := hx
  rw [List.getD_eq_getElem?_getD]
  cases e : l[i]? with
  | none => simp
  | some y => exact h y (List.mem_of_getElem? e)
theorem octets_sub {l : List Int} (h : octets l) (i n : Nat) : octets (subI l i n) := by
  intro x hx
  simp only [subI, List.mem_map, List.mem_range] at hx
  obtain ⟨j, _, rfl⟩ := hx
  rw [List.getD_eq_getElem?_getD]
  cases e : l[i + j]? with
  | none => simp
  | some y => exact h y (List.mem_of_getElem? e)
theorem octets_spl {l m : List Int} (h : octets l) (h2 : octets m) (i n : Nat) : octets (spl l i n m) := by
  rw [spl]
  exact octets_append (octets_append (octets_pad h _) (octets_pad h2 _)) fun x hx => h x (List.mem_of_mem_drop hx)
theorem subI_length (l : List Int) (i n : Nat) : (subI l i n).length = n := by simp [subI]
theorem padT_length (l : List Int) (n : Nat) : (padT l n).length = n := by simp [padT]
theorem row_flat (e : Nat) : ∀ (xs : List Nat), (∀ x ∈ xs, x < 18446744073709551616) → (xs.map fun x : Nat => (x : Int)).flatMap (Rw.low e) = xs.flatMap (be e)
  | [], _ => rfl
  | x :: xs, h => by
    rw [List.map_cons, List.flatMap_cons, List.flatMap_cons, row_flat e xs fun y hy => h y (List.mem_cons_of_mem _ hy), low_be e x (h x List.mem_cons_self)]
theorem f63.spec (K a e m : Nat) (l : List Int) (xs : List Nat) (hl : l.length = a) (hm : xs.length = m) (hx : ∀ x ∈ xs, x < 18446744073709551616) (he : e ≤ 8) (ha : a + e * m ≤ 140737488355328) (hm2 : m ≤ 1000000000) :
    f63.F K (a, (e : Int), m, a, l, m, xs.map fun x : Nat => (x : Int)) = some (a + e * m, a + e * m, a, l, m, (xs.map fun x : Nat => (x : Int)), a + e * m, l ++ xs.flatMap (be e)) := by
  rw [f63.F]
  simp only [Int.toNat_natCast]
  rw [show Nat.beq a a = true from Nat.beq_refl a, show Nat.beq m m = true from Nat.beq_refl m, decide_eq_true (show (0 : Int) ≤ (e : Int) ∧ (e : Int) ≤ 8 by omega), ble_true ha, ble_true (show m * 8 ≤ 140737488351232 by omega),
    Bool.and_self, Bool.and_self, Bool.and_self, Bool.and_self, cond_t, padT_self l hl, padT_self _ (by simpa using hm), row_flat e xs hx]
theorem f41.spec (K a n x : Nat) (l : List Int) (hl : l.length = a) (hx : x < 18446744073709551616) (hn : n ≤ 8) (ha : a ≤ 1000000000) :
    f41.F K (a, (x : Int), (n : Int), a, l) = some (a + n, a + n, a, l, a + n, l ++ be n x) := by
  have e1 : maxE 0 (minE 8 (n : Int)) = (n : Int) := by
    unfold maxE minE
    rcases Nat.lt_or_ge n 8 with h | h
    · rw [decide_eq_true (show (n : Int) < 8 by omega), cond_t]
      rcases Nat.eq_zero_or_pos n with h0 | h0
      · subst h0; rfl
      · rw [decide_eq_true (show (n : Int) > 0 by omega), cond_t]
    · have : n = 8 := by omega
      subst this; rfl
  have e2 := f63.spec K a n 1 l [x] hl rfl (by simpa using hx) hn (by omega) (by omega)
  simp only [List.map_cons, List.map_nil, List.flatMap_cons, List.flatMap_nil, List.append_nil, Nat.mul_one] at e2
  simp only [f41.F, f41.T]
  rw [Nat.zero_add, ble_true (Nat.le_refl a), Bool.and_self, Bool.and_self, cond_t, e1, subI_self l hl, e2, bind_s]
theorem take_snoc {l : List Int} {i : Nat} (h : i < l.length) : l.take (i + 1) = l.take i ++ [l.getD i 0] := by
  rw [List.take_add_one, List.getD_eq_getElem?_getD, List.getElem?_eq_getElem h]; rfl
theorem tv_zeros : ∀ n, tv (List.replicate n 0) = 0
  | 0 => rfl
  | n + 1 => by rw [List.replicate_succ', tv_snoc, tv_zeros n]; rfl
theorem octets_zeros (n : Nat) : octets (List.replicate n 0) := fun x hx => by rw [List.mem_replicate] at hx; omega
theorem f83.loop (K n : Nat) (l b : List Int) (hb : b.length = 8) (ho : octets b) (hK : 8 < K) : iter (f83.s0 K) K (0, 0, n, l, b) = some (((tv b : Nat) : Int), n, l) := by
  have := iter_for (stp := f83.s0 K) (N := 8) (fun i => (((tv (b.take i) : Nat) : Int), (i : Int), n, l, b)) (y := some (((tv b : Nat) : Int), n, l)) ?_ ?_ hK
  · exact this
  · intro i hi rec
    simp only [f83.s0, f83.s0t]
    have hg := ho (b.getD i 0) (by rw [List.getD_eq_getElem?_getD, List.getElem?_eq_getElem (by omega)]; exact List.getElem_mem _)
    have h1 : tv (b.take i) < 256 ^ i := tv_lt i _ (by simp; omega) fun x hx => ho x (List.mem_of_mem_take hx)
    have h2 : (256 : Nat) ^ i ≤ 256 ^ 7 := Nat.pow_le_pow_right (by decide) (by omega)
    have h3 : (256 : Nat) ^ 7 = 72057594037927936 := by decide
    have e5 : (256 : Int) * ((tv (b.take i) : Nat) : Int) = ((256 * tv (b.take i) : Nat) : Int) := by rw [Int.natCast_mul]; rfl
    rw [decide_eq_true (show (i : Int) < 8 by omega), cond_t, decide_eq_true (show (0 : Int) ≤ (i : Int) ∧ (i : Int) < 8 by omega), cond_t, Int.toNat_natCast, e5, wrap_u ((256 * tv (b.take i) : Nat) : Int) (by omega) (by omega), wrap_u (b.getD i 0) (by omega) (by omega), wrap_u (((256 * tv (b.take i) : Nat) : Int) + b.getD i 0) (by omega) (by omega), wrap_i _ (by omega) (by omega), take_snoc (by omega), tv_snoc]
    congr 2
    omega
  · intro rec
    simp only [f83.s0, f83.s0t]
    rw [List.take_of_length_le (by omega)]
    rfl
theorem f83.spec (K n m : Nat) (l : List Int) (hl : l.length = n) (ho : octets l) (hm : 1 ≤ m) (hm8 : m ≤ 8) (hn : m ≤ n) (hK : 8 < K) : f83.F K (n, (m : Int), n, l) = some (((tv (l.take m) : Nat) : Int), 0, n, l) := by
  simp only [f83.F, f83.T]
  have e : IntKind.wrap .i64 (8 - (m : Int)) = ((8 - m : Nat) : Int) := by rw [wrap_i _ (by omega) (by omega)]; omega
  have e6 : (bif Nat.beq 8 (8 - m) then 0 else 0 + (8 - m)) = 8 - m := by
    rw [show Nat.beq 8 (8 - m) = false from (by rw [← Bool.not_eq_true, Nat.beq_eq]; omega), cond_f, Nat.zero_add]
  have e7 : spl [0, 0, 0, 0, 0, 0, 0, 0] (8 - m) (Nat.min n (8 - (8 - m))) (subI l 0 n) = List.replicate (8 - m) 0 ++ l.take m := by
    have q : Nat.min n (8 - (8 - m)) = m := by show min n _ = m; omega
    rw [q, subI_self l hl, spl, List.drop_of_length_le (by simp; omega), List.append_nil]
    congr 1
    · refine List.ext_getElem? fun i => ?_
      by_cases hi : i < 8 - m
      · have : i < 8 := by omega
        rw [List.getElem?_replicate, if_pos hi]
        simp only [padT, List.getElem?_map, List.getElem?_range hi, Option.map_some]
        congr 1
        match i, this with
        | 0, _ | 1, _ | 2, _ | 3, _ | 4, _ | 5, _ | 6, _ | 7, _ => rfl
      · rw [List.getElem?_eq_none (by simpa [padT] using hi), List.getElem?_eq_none (by simpa using hi)]
    · refine List.ext_getElem? fun i => ?_
      rw [List.getElem?_take]
      by_cases hi : i < m
      · rw [if_pos hi]
        have : i < l.length := by omega
        simp [padT, hi, this]
      · rw [if_neg hi, List.getElem?_eq_none (by simpa [padT] using hi)]
  rw [decide_eq_false (show ¬ (m : Int) < 0 by omega), cond_f, decide_eq_false (show ¬ (m : Int) > 8 by omega), cond_f, decide_eq_false (show ¬ ((n : Nat) : Int) < (m : Int) by omega), cond_f, e, decide_eq_true (show (0 : Int) ≤ ((8 - m : Nat) : Int) ∧ ((8 - m : Nat) : Int) ≤ 8 by omega), cond_t]
  simp only [Int.toNat_natCast]
  rw [e6, e7, Nat.zero_add, ble_true (Nat.le_refl n), ble_true (show 8 - m + (8 - (8 - m)) ≤ 8 by omega), show Nat.beq n n = true from Nat.beq_refl n, Bool.and_self, Bool.and_self, cond_t,
    f83.loop K n l _ (by simp; omega) (octets_append (octets_zeros _) fun x hx => ho x (List.mem_of_mem_take hx)) hK, bind_s, tv_append, tv_zeros, Nat.zero_mul, Nat.zero_add]
end Go.Proofs

namespace Go.Proofs
open Go.VM
abbrev f76.Ty0 := List Int × Int × Int × List Int × List Int × Int
abbrev f76.Ty1 := List Int × Int × Int × List Int
def f76.T (_K : Nat) (m0_0 : List Int) (m0_1 : Int) (m0_2 : Int) (m1 : List Int) : Option (f76.Ty0) :=
  some (m0_0, m0_1, m0_2, m1, [0, 0, 0, 0, 0, 0, 0, 0, 0, 0, 0, 0, 0, 0, 0, 0], 0)
def f76.F (K : Nat) (x : f76.Ty1) : Option (f76.Ty0) := f76.T K x.1 x.2.1 x.2.2.1 x.2.2.2
def f76.av (_x : f76.Ty1) : List VV := [.ptr 0 1]
def f76.bl (x : f76.Ty1) : List (Nat × Blk) := [(0, ([.ptr 1 0, .ints .u8 64 x.1, .int .i64 x.2.1, .int .u64 x.2.2.1], 30, .norm)), (1, ([.ints .u32 8 x.2.2.2], 110, .norm))]
def f76.inA : VS → Option (f76.Ty1)
  | ⟨[(0, .ptr 0 1)], [(0, ([.ptr 1 0, .ints .u8 64 m0_0, .int .i64 m0_1, .int .u64 m0_2], 30, .norm)), (1, ([.ints .u32 8 m1], 110, .norm))], 2⟩ => some (m0_0, m0_1, m0_2, m1)
  | _ => none
def f76.o0 (y : f76.Ty0) : VS := ⟨[(0, .fn 90 [.ptr 2 0, .ptr 3 0, .ptr 4 0])], [(0, ([.ptr 1 0, .ints .u8 64 y.1, .int .i64 y.2.1, .int .u64 y.2.2.1], 30, .norm)), (1, ([.ints .u32 8 y.2.2.2.1], 110, .norm)), (2, ([.ints .u32 16 y.2.2.2.2.1], 146, .norm)), (3, ([.int .i64 y.2.2.2.2.2], 3, .norm)), (4, ([.ptr 0 1], 112, .norm))], 5⟩
def f76.inR : VS → Option (f76.Ty0)
  | ⟨[(0, .fn 90 [.ptr 2 0, .ptr 3 0, .ptr 4 0])], [(0, ([.ptr 1 0, .ints .u8 64 z0_0, .int .i64 z0_1, .int .u64 z0_2], 30, .norm)), (1, ([.ints .u32 8 z1], 110, .norm)), (2, ([.ints .u32 16 z2], 146, .norm)), (3, ([.int .i64 z3], 3, .norm)), (4, ([.ptr 0 1], 112, .norm))], 5⟩ => some (z0_0, z0_1, z0_2, z1, z2, z3)
  | _ => none
noncomputable def f76.E (K : Nat) : Entry := genE 2 f76.inA (f76.F K) (dv1 f76.o0)
theorem f76.ok (K : Nat) : EntryOK Try.prog 76 (f76.E K) := gen_ok mix tys_ok (tab_ok ( tab_nil)) Try.func76 (c := bodyOf Try.f76) (by kernel_rfl) (by kernel_rfl) (loops_none (lp := lpNone) (by kernel_rfl)) (av := f76.av) (bl := f76.bl) (inR := f76.inR) (out := f76.o0) (fuel := 400)
  (by intro s x h; unfold f76.inA at h; split at h <;> simp at h; subst h; rfl) (fun _ => Nat.le_of_ble_eq_true rfl)
  (by intro s y h; unfold f76.inR at h; split at h <;> simp at h <;> subst h <;> rfl) (fun _ _ _ => rfl) (fun _ => by kernel_rfl)
end Go.Proofs

namespace Go.Proofs
open Go.VM
def f77.T (_K : Nat)  : Option (List Int) :=
  some ([1116352408, 1899447441, 3049323471, 3921009573, 961987163, 1508970993, 2453635748, 2870763221, 3624381080, 310598401, 607225278, 1426881987, 1925078388, 2162078206, 2614888103, 3248222580, 3835390401, 4022224774, 264347078, 604807628, 770255983, 1249150122, 1555081692, 1996064986, 2554220882, 2821834349, 2952996808, 3210313671, 3336571891, 3584528711, 113926993, 338241895, 666307205, 773529912, 1294757372, 1396182291, 1695183700, 1986661051, 2177026350, 2456956037, 2730485921, 2820302411, 3259730800, 3345764771, 3516065817, 3600352804, 4094571909, 275423344, 430227734, 506948616, 659060556, 883997877, 958139571, 1322822218, 1537002063, 1747873779, 1955562222, 2024104815, 2227730452, 2361852424, 2428436474, 2756734187, 3204031479, 3329325298])
def f77.F (K : Nat) (_x : Unit) : Option (List Int) := f77.T K
def f77.av (_x : Unit) : List VV := []
def f77.bl (_x : Unit) : List (Nat × Blk) := []
def f77.inA : VS → Option (Unit)
  | ⟨[], [], 0⟩ => some ()
  | _ => none
def f77.o0 (y : List Int) : VS := ⟨[(0, .agg [.ints .u32 64 y])], [], 0⟩
def f77.inR : VS → Option (List Int)
  | ⟨[(0, .agg [.ints .u32 64 y])], [], 0⟩ => some y
  | _ => none
noncomputable def f77.E (K : Nat) : Entry := genE 0 f77.inA (f77.F K) (dv1 f77.o0)
theorem f77.ok (K : Nat) : EntryOK Try.prog 77 (f77.E K) := gen_ok mix tys_ok (tab_ok ( tab_nil)) Try.func77 (c := bodyOf Try.f77) (by kernel_rfl) (by kernel_rfl) (loops_none (lp := lpNone) (by kernel_rfl)) (av := f77.av) (bl := f77.bl) (inR := f77.inR) (out := f77.o0) (fuel := 400)
  (by intro s x h; unfold f77.inA at h; split at h <;> simp at h; rfl) (fun _ => Nat.le_of_ble_eq_true rfl)
  (by intro s y h; unfold f77.inR at h; split at h <;> simp at h <;> subst h <;> rfl) (fun _ _ _ => rfl) (fun _ => by kernel_rfl)
end Go.Proofs

namespace Go.Proofs
open Go.VM
abbrev f90.Ty0 := Int × List Int × Int × List Int × Int × Int × List Int
abbrev f90.Ty1 := List Int × Int × List Int × Int × Int × List Int
def f90.T (K : Nat) (m0 : List Int) (m1 : Int) (m3_0 : List Int) (m3_1 : Int) (m3_2 : Int) (m4 : List Int) : Option (f90.Ty0) :=
  let v1 := Int.tmod m1 16
  bif decide (0 ≤ v1 ∧ v1 < 16) then
    let v2 := Int.toNat v1
    bif (decide (m1 < 16)) then
      let v4 := IntKind.wrap .i64 (4 * m1)
      bif decide (0 ≤ v4 ∧ v4 ≤ 64) then
        let v5 := bif Nat.beq 64 (Int.toNat v4) then 0 else (Int.toNat v4)
        let v6 := 64 - (Int.toNat v4)
        bif ((Nat.ble (v5 + v6) 64 && (Nat.ble v6 (64 - (Int.toNat v4)))) && true) then
          (f83.F K (v6, 4, v6, (subI m3_0 v5 v6))).bind fun y8 =>
          let v10 := setD m0 v2 (IntKind.wrap .u32 y8.1)
          some ((List.getD v10 v2 0), v10, (IntKind.wrap .i64 (m1 + 1)), m3_0, m3_1, m3_2, m4)
        else
          none
      else
        none
    else
      let v14 := Int.tmod (IntKind.wrap .i64 (m1 + 1)) 16
      bif decide (0 ≤ v14 ∧ v14 < 16) then
        let v16 := List.getD m0 (Int.toNat v14) 0
        let v18 := Int.tmod (IntKind.wrap .i64 (m1 + 14)) 16
        bif decide (0 ≤ v18 ∧ v18 < 16) then
          let v20 := List.getD m0 (Int.toNat v18) 0
          (f78.F K (v16, 2, 2, [7, 18])).bind fun y22 =>
          let v26 := setD m0 v2 (IntKind.wrap .u32 ((List.getD m0 v2 0) + (bits .xor .u32 y22.1 (Int.fdiv v16 (2 ^ 3)))))
          (f78.F K (v20, 2, 2, [17, 19])).bind fun y28 =>
          let v32 := setD v26 v2 (IntKind.wrap .u32 ((List.getD v26 v2 0) + (bits .xor .u32 y28.1 (Int.fdiv v20 (2 ^ 10)))))
          let v35 := Int.tmod (IntKind.wrap .i64 (m1 + 9)) 16
          bif decide (0 ≤ v35 ∧ v35 < 16) then
            let v39 := setD v32 v2 (IntKind.wrap .u32 ((List.getD v32 v2 0) + (List.getD v32 (Int.toNat v35) 0)))
            some ((List.getD v39 v2 0), v39, (IntKind.wrap .i64 (m1 + 1)), m3_0, m3_1, m3_2, m4)
          else
            none
        else
          none
      else
        none
  else
    none
def f90.F (K : Nat) (x : f90.Ty1) : Option (f90.Ty0) := f90.T K x.1 x.2.1 x.2.2.1 x.2.2.2.1 x.2.2.2.2.1 x.2.2.2.2.2
def f90.av (_x : f90.Ty1) : List VV := [.ptr 0 0, .ptr 1 0, .ptr 2 0]
def f90.bl (x : f90.Ty1) : List (Nat × Blk) := [(0, ([.ints .u32 16 x.1], 146, .norm)), (1, ([.int .i64 x.2.1], 3, .norm)), (2, ([.ptr 3 1], 112, .norm)), (3, ([.ptr 4 0, .ints .u8 64 x.2.2.1, .int .i64 x.2.2.2.1, .int .u64 x.2.2.2.2.1], 30, .norm)), (4, ([.ints .u32 8 x.2.2.2.2.2], 110, .norm))]
def f90.inA : VS → Option (f90.Ty1)
  | ⟨[(0, .ptr 0 0), (1, .ptr 1 0), (2, .ptr 2 0)], [(0, ([.ints .u32 16 m0], 146, .norm)), (1, ([.int .i64 m1], 3, .norm)), (2, ([.ptr 3 1], 112, .norm)), (3, ([.ptr 4 0, .ints .u8 64 m3_0, .int .i64 m3_1, .int .u64 m3_2], 30, .norm)), (4, ([.ints .u32 8 m4], 110, .norm))], 5⟩ => some (m0, m1, m3_0, m3_1, m3_2, m4)
  | _ => none
def f90.o0 (y : f90.Ty0) : VS := ⟨[(0, .int .u32 y.1)], [(0, ([.ints .u32 16 y.2.1], 146, .norm)), (1, ([.int .i64 y.2.2.1], 3, .norm)), (2, ([.ptr 3 1], 112, .norm)), (3, ([.ptr 4 0, .ints .u8 64 y.2.2.2.1, .int .i64 y.2.2.2.2.1, .int .u64 y.2.2.2.2.2.1], 30, .norm)), (4, ([.ints .u32 8 y.2.2.2.2.2.2], 110, .norm))], 5⟩
def f90.inR : VS → Option (f90.Ty0)
  | ⟨[(0, .int .u32 y)], [(0, ([.ints .u32 16 z0], 146, .norm)), (1, ([.int .i64 z1], 3, .norm)), (2, ([.ptr 3 1], 112, .norm)), (3, ([.ptr 4 0, .ints .u8 64 z3_0, .int .i64 z3_1, .int .u64 z3_2], 30, .norm)), (4, ([.ints .u32 8 z4], 110, .norm))], 5⟩ => some (y, z0, z1, z3_0, z3_1, z3_2, z4)
  | _ => none
noncomputable def f90.E (K : Nat) : Entry := genE 5 f90.inA (f90.F K) (dv1 f90.o0)
theorem f90.ok (K : Nat) : EntryOK Try.prog 90 (f90.E K) := gen_ok mix tys_ok (sp := tabSp [(83, (viewE [(0, .u8)] (f83.E K))), (78, (viewE [(1, .i64)] (f78.E K)))]) (tab_ok ((tab_cons (view_ok (f83.ok K)) (tab_cons (view_ok (f78.ok K)) tab_nil)))) Try.func90 (c := bodyOf Try.f90) (by kernel_rfl) (by kernel_rfl) (loops_none (lp := lpNone) (by kernel_rfl)) (av := f90.av) (bl := f90.bl) (inR := f90.inR) (out := f90.o0) (fuel := 400)
  (by intro s x h; unfold f90.inA at h; split at h <;> simp at h; subst h; rfl) (fun _ => Nat.le_of_ble_eq_true rfl)
  (by intro s y h; unfold f90.inR at h; split at h <;> simp at h <;> subst h <;> rfl) (fun _ _ _ => rfl) (fun _ => by kernel_rfl)
end Go.Proofs

namespace Go.Proofs
open Go.VM
abbrev f62.Ty0 := List Int × Int × List Int × Int × Int × List Int × List Int × List Int × List Int × List Int × Int
abbrev f62.Ty1 := List Int × Int × List Int × Int × Int × List Int × List Int × List Int
abbrev f62.Ty2 := List Int × Int × Int × List Int × List Int × List Int × List Int
abbrev f62.Ty3 := List Int × Int × Int × List Int × List Int × List Int
abbrev f62.Ty4 := List Int × List Int × Int × Int × List Int
noncomputable def f62.c : Code := bodyOf Try.f62
def f62.s0t (K : Nat) (rec : f62.Ty0 → Option (f62.Ty2)) (t16 : List Int) (t17 : Int) (b0_0 : List Int) (b0_1 : Int) (b0_2 : Int) (b1 : List Int) (b2 : List Int) (b3 : List Int) (b4 : List Int) (b5 : List Int) (b6 : Int) : Option (f62.Ty2) :=
  bif (decide (t17 < 64)) then
    bif decide (0 ≤ t17 ∧ t17 < 64) then
      (f78.F K ((List.getD b4 4 0), 3, 3, [6, 11, 25])).bind fun y7 =>
      (f90.F K (b5, b6, b0_0, b0_1, b0_2, b1)).bind fun y19 =>
      let v20 := IntKind.wrap .u32 ((IntKind.wrap .u32 ((IntKind.wrap .u32 ((IntKind.wrap .u32 ((List.getD b4 7 0) + y7.1)) + (bits .or .u32 (bits .and .u32 (List.getD b4 4 0) (List.getD b4 5 0)) (bits .and .u32 (bits .xor .u32 4294967295 (List.getD b4 4 0)) (List.getD b4 6 0))))) + (List.getD t16 (Int.toNat t17) 0))) + y19.1)
      (f78.F K ((List.getD b4 0 0), 3, 3, [2, 13, 22])).bind fun y22 =>
      let v33 := spl b4 1 7 (subI b4 0 7)
      rec (t16, (IntKind.wrap .i64 (t17 + 1)), y19.2.2.2.1, y19.2.2.2.2.1, y19.2.2.2.2.2.1, y19.2.2.2.2.2.2, b2, b3, (setD (setD v33 4 (IntKind.wrap .u32 ((List.getD v33 4 0) + v20))) 0 (IntKind.wrap .u32 (v20 + (IntKind.wrap .u32 (y22.1 + (bits .xor .u32 (bits .and .u32 (List.getD b4 0 0) (bits .xor .u32 (List.getD b4 1 0) (List.getD b4 2 0))) (bits .and .u32 (List.getD b4 1 0) (List.getD b4 2 0)))))))), y19.2.1, y19.2.2.1)
    else
      none
  else
    some (b0_0, b0_1, b0_2, b1, b2, b3, b4)
def f62.s0 (K : Nat) (rec : f62.Ty0 → Option (f62.Ty2)) (x : f62.Ty0) : Option (f62.Ty2) := f62.s0t K rec x.1 x.2.1 x.2.2.1 x.2.2.2.1 x.2.2.2.2.1 x.2.2.2.2.2.1 x.2.2.2.2.2.2.1 x.2.2.2.2.2.2.2.1 x.2.2.2.2.2.2.2.2.1 x.2.2.2.2.2.2.2.2.2.1 x.2.2.2.2.2.2.2.2.2.2
noncomputable def f62.s0.b : Code := (findLoop 0 f62.c).getD .skip
def f62.s0.h : Hint := { lv := [2, 4, 5, 6, 16, 17] }
def f62.s0.ho : Hint := { lv := [2, 4, 5] }
def f62.s0.shp (x : f62.Ty0) : VS := ⟨[(2, .ptr 2 0), (4, .ptr 3 0), (5, .ptr 4 0), (6, .fn 90 [.ptr 5 0, .ptr 6 0, .ptr 7 0]), (16, .agg [.ints .u32 64 x.1]), (17, .int .i64 x.2.1)], [(0, ([.ptr 1 0, .ints .u8 64 x.2.2.1, .int .i64 x.2.2.2.1, .int .u64 x.2.2.2.2.1], 30, .norm)), (1, ([.ints .u32 8 x.2.2.2.2.2.1], 110, .norm)), (2, ([.ints .u32 8 x.2.2.2.2.2.2.1], 110, .norm)), (3, ([.ints .u32 8 x.2.2.2.2.2.2.2.1], 110, .norm)), (4, ([.ints .u32 8 x.2.2.2.2.2.2.2.2.1], 110, .norm)), (5, ([.ints .u32 16 x.2.2.2.2.2.2.2.2.2.1], 146, .norm)), (6, ([.int .i64 x.2.2.2.2.2.2.2.2.2.2], 3, .norm)), (7, ([.ptr 0 1], 112, .norm))], 8⟩
def f62.s0.inX : VS → Option (f62.Ty0)
  | ⟨[(2, .ptr 2 0), (4, .ptr 3 0), (5, .ptr 4 0), (6, .fn 90 [.ptr 5 0, .ptr 6 0, .ptr 7 0]), (16, .agg [.ints .u32 64 t16]), (17, .int .i64 t17)], [(0, ([.ptr 1 0, .ints .u8 64 b0_0, .int .i64 b0_1, .int .u64 b0_2], 30, .norm)), (1, ([.ints .u32 8 b1], 110, .norm)), (2, ([.ints .u32 8 b2], 110, .norm)), (3, ([.ints .u32 8 b3], 110, .norm)), (4, ([.ints .u32 8 b4], 110, .norm)), (5, ([.ints .u32 16 b5], 146, .norm)), (6, ([.int .i64 b6], 3, .norm)), (7, ([.ptr 0 1], 112, .norm))], 8⟩ => some (t16, t17, b0_0, b0_1, b0_2, b1, b2, b3, b4, b5, b6)
  | _ => none
def f62.s0.o0 (y : f62.Ty2) : VS := ⟨[(2, .ptr 2 0), (4, .ptr 3 0), (5, .ptr 4 0)], [(0, ([.ptr 1 0, .ints .u8 64 y.1, .int .i64 y.2.1, .int .u64 y.2.2.1], 30, .norm)), (1, ([.ints .u32 8 y.2.2.2.1], 110, .norm)), (2, ([.ints .u32 8 y.2.2.2.2.1], 110, .norm)), (3, ([.ints .u32 8 y.2.2.2.2.2.1], 110, .norm)), (4, ([.ints .u32 8 y.2.2.2.2.2.2], 110, .norm))], 5⟩
def f62.s0.des : ∀ α : Type, (f62.Ty2) → (Ex → VS → Option α) → Option α := (des1 (.exit 0) f62.s0.o0)
def f62.s0.out : f62.Ty2 → Ex × VS := (fun y => (.exit 0, f62.s0.o0 y))
theorem f62.s0.desOK : ∀ α y (k : Ex → VS → Option α), f62.s0.des α y k = k (f62.s0.out y).1 (f62.s0.out y).2 := (fun _ _ _ => rfl)
def f62.s0.inY : Ex → VS → Option (f62.Ty2)
  | .exit 0, ⟨[(2, .ptr 2 0), (4, .ptr 3 0), (5, .ptr 4 0)], [(0, ([.ptr 1 0, .ints .u8 64 b0_0, .int .i64 b0_1, .int .u64 b0_2], 30, .norm)), (1, ([.ints .u32 8 b1], 110, .norm)), (2, ([.ints .u32 8 b2], 110, .norm)), (3, ([.ints .u32 8 b3], 110, .norm)), (4, ([.ints .u32 8 b4], 110, .norm))], 5⟩ => some (b0_0, b0_1, b0_2, b1, b2, b3, b4)
  | _, _ => none
def f62.s2t (_K : Nat) (rec : f62.Ty1 → Option (f62.Ty3)) (t77 : List Int) (t78 : Int) (b0_0 : List Int) (b0_1 : Int) (b0_2 : Int) (b1 : List Int) (b2 : List Int) (b3 : List Int) : Option (f62.Ty3) :=
  bif (decide (t78 < 8)) then
    bif decide (0 ≤ t78 ∧ t78 < 8) then
      bif decide (0 ≤ t78 ∧ t78 < 8) then
        bif decide (0 ≤ t78 ∧ t78 < 8) then
          rec (t77, (IntKind.wrap .i64 (t78 + 1)), b0_0, b0_1, b0_2, b1, b2, (setD b3 (Int.toNat t78) (IntKind.wrap .u32 ((List.getD b3 (Int.toNat t78) 0) + (List.getD t77 (Int.toNat t78) 0)))))
        else
          none
      else
        none
    else
      none
  else
    some (b0_0, b0_1, b0_2, b1, b2, b3)
def f62.s2 (K : Nat) (rec : f62.Ty1 → Option (f62.Ty3)) (x : f62.Ty1) : Option (f62.Ty3) := f62.s2t K rec x.1 x.2.1 x.2.2.1 x.2.2.2.1 x.2.2.2.2.1 x.2.2.2.2.2.1 x.2.2.2.2.2.2.1 x.2.2.2.2.2.2.2
noncomputable def f62.s2.b : Code := (findLoop 2 f62.c).getD .skip
def f62.s2.h : Hint := { lv := [4, 5, 77, 78] }
def f62.s2.ho : Hint := { lv := [4, 5] }
def f62.s2.shp (x : f62.Ty1) : VS := ⟨[(4, .ptr 2 0), (5, .ptr 3 0), (77, .agg [.ints .u32 8 x.1]), (78, .int .i64 x.2.1)], [(0, ([.ptr 1 0, .ints .u8 64 x.2.2.1, .int .i64 x.2.2.2.1, .int .u64 x.2.2.2.2.1], 30, .norm)), (1, ([.ints .u32 8 x.2.2.2.2.2.1], 110, .norm)), (2, ([.ints .u32 8 x.2.2.2.2.2.2.1], 110, .norm)), (3, ([.ints .u32 8 x.2.2.2.2.2.2.2], 110, .norm))], 4⟩
def f62.s2.inX : VS → Option (f62.Ty1)
  | ⟨[(4, .ptr 2 0), (5, .ptr 3 0), (77, .agg [.ints .u32 8 t77]), (78, .int .i64 t78)], [(0, ([.ptr 1 0, .ints .u8 64 b0_0, .int .i64 b0_1, .int .u64 b0_2], 30, .norm)), (1, ([.ints .u32 8 b1], 110, .norm)), (2, ([.ints .u32 8 b2], 110, .norm)), (3, ([.ints .u32 8 b3], 110, .norm))], 4⟩ => some (t77, t78, b0_0, b0_1, b0_2, b1, b2, b3)
  | _ => none
def f62.s2.o0 (y : f62.Ty3) : VS := ⟨[(4, .ptr 2 0), (5, .ptr 3 0)], [(0, ([.ptr 1 0, .ints .u8 64 y.1, .int .i64 y.2.1, .int .u64 y.2.2.1], 30, .norm)), (1, ([.ints .u32 8 y.2.2.2.1], 110, .norm)), (2, ([.ints .u32 8 y.2.2.2.2.1], 110, .norm)), (3, ([.ints .u32 8 y.2.2.2.2.2], 110, .norm))], 4⟩
def f62.s2.des : ∀ α : Type, (f62.Ty3) → (Ex → VS → Option α) → Option α := (des1 (.exit 2) f62.s2.o0)
def f62.s2.out : f62.Ty3 → Ex × VS := (fun y => (.exit 2, f62.s2.o0 y))
theorem f62.s2.desOK : ∀ α y (k : Ex → VS → Option α), f62.s2.des α y k = k (f62.s2.out y).1 (f62.s2.out y).2 := (fun _ _ _ => rfl)
def f62.s2.inY : Ex → VS → Option (f62.Ty3)
  | .exit 2, ⟨[(4, .ptr 2 0), (5, .ptr 3 0)], [(0, ([.ptr 1 0, .ints .u8 64 b0_0, .int .i64 b0_1, .int .u64 b0_2], 30, .norm)), (1, ([.ints .u32 8 b1], 110, .norm)), (2, ([.ints .u32 8 b2], 110, .norm)), (3, ([.ints .u32 8 b3], 110, .norm))], 4⟩ => some (b0_0, b0_1, b0_2, b1, b2, b3)
  | _, _ => none
def f62.lp (K : Nat) : Nat → Option (Hint × Summ) := tabLp [(0, f62.s0.h, summOf (iter (f62.s0 K) K) f62.s0.inX f62.s0.des), (2, f62.s2.h, summOf (iter (f62.s2 K) K) f62.s2.inX f62.s2.des)]
noncomputable def f62.tab (K : Nat) : List (Nat × Entry) := [(76, (f76.E K)), (77, (f77.E K)), (78, (viewE [(1, .i64)] (f78.E K))), (90, (f90.E K))]
theorem f62.tabOK (K : Nat) : SpecOK Try.prog (tabSp (f62.tab K)) := tab_ok ((tab_cons (f76.ok K) (tab_cons (f77.ok K) (tab_cons (view_ok (f78.ok K)) (tab_cons (f90.ok K) tab_nil)))))
theorem f62.s0.eq (K : Nat) (rec : f62.Ty0 → Option (f62.Ty2)) (x : f62.Ty0) : f62.s0 K rec x = roundL (getA tys) (tabSp (f62.tab K)) 90 2 (f62.lp K) 400 f62.s0.b f62.s0.h f62.s0.ho f62.s0.shp f62.s0.inX f62.s0.inY rec x := by kernel_rfl
theorem f62.s0.lok (K : Nat) : LoopsOK Try.prog 90 2 (f62.lp K) f62.s0.b := loops_ok (by
  have h : loopsIn (f62.lp K) f62.s0.b = [] := by kernel_rfl
  rw [h]; simp)
theorem f62.s0.ok (K : Nat) : SummOK Try.prog 90 2 (summOf (iter (f62.s0 K) K) f62.s0.inX f62.s0.des) f62.s0.b :=
  loop_ok mix tys_ok (f62.tabOK K) (h := f62.s0.h) (ho := f62.s0.ho) (shp := f62.s0.shp) (inX := f62.s0.inX) (des := f62.s0.des) (out := f62.s0.out) (inY := f62.s0.inY) (fuel := 400)
    (by intro st x h; unfold f62.s0.inX at h; split at h <;> simp at h; subst h; rfl)
    (by intro e st y h; unfold f62.s0.inY at h; split at h <;> simp at h <;> subst h <;> rfl)
    f62.s0.desOK (f62.s0.lok K) (f62.s0 K) (f62.s0.eq K) K
theorem f62.s2.eq (K : Nat) (rec : f62.Ty1 → Option (f62.Ty3)) (x : f62.Ty1) : f62.s2 K rec x = roundL (getA tys) (tabSp (f62.tab K)) 90 2 (f62.lp K) 400 f62.s2.b f62.s2.h f62.s2.ho f62.s2.shp f62.s2.inX f62.s2.inY rec x := by kernel_rfl
theorem f62.s2.lok (K : Nat) : LoopsOK Try.prog 90 2 (f62.lp K) f62.s2.b := loops_ok (by
  have h : loopsIn (f62.lp K) f62.s2.b = [] := by kernel_rfl
  rw [h]; simp)
theorem f62.s2.ok (K : Nat) : SummOK Try.prog 90 2 (summOf (iter (f62.s2 K) K) f62.s2.inX f62.s2.des) f62.s2.b :=
  loop_ok mix tys_ok (f62.tabOK K) (h := f62.s2.h) (ho := f62.s2.ho) (shp := f62.s2.shp) (inX := f62.s2.inX) (des := f62.s2.des) (out := f62.s2.out) (inY := f62.s2.inY) (fuel := 400)
    (by intro st x h; unfold f62.s2.inX at h; split at h <;> simp at h; subst h; rfl)
    (by intro e st y h; unfold f62.s2.inY at h; split at h <;> simp at h <;> subst h <;> rfl)
    f62.s2.desOK (f62.s2.lok K) (f62.s2 K) (f62.s2.eq K) K
theorem f62.loops (K : Nat) : LoopsOK Try.prog 90 2 (f62.lp K) f62.c := loops_ok (by
  have h : loopsIn (f62.lp K) f62.c = [(0, f62.s0.b), (2, f62.s2.b)] := by kernel_rfl
  rw [h]
  intro p hp
  simp only [List.mem_cons, List.not_mem_nil, or_false] at hp
  rcases hp with rfl | rfl
  · exact ⟨_, rfl, (f62.s0.ok K)⟩
  · exact ⟨_, rfl, (f62.s2.ok K)⟩)
def f62.T (K : Nat) (a0 : List Int) (m0_0 : List Int) (m0_1 : Int) (m0_2 : Int) (m1 : List Int) : Option (f62.Ty4) :=
  (f76.F K (m0_0, m0_1, m0_2, m1)).bind fun y1 =>
  (f77.F K ()).bind fun y2 =>
  (iter (f62.s0 K) K (y2, 0, y1.1, y1.2.1, y1.2.2.1, y1.2.2.2.1, a0, [0, 0, 0, 0, 0, 0, 0, 0], a0, y1.2.2.2.2.1, y1.2.2.2.2.2)).bind fun y40 =>
  (iter (f62.s2 K) K (y40.2.2.2.2.1, 0, y40.1, y40.2.1, y40.2.2.1, y40.2.2.2.1, y40.2.2.2.2.2.1, y40.2.2.2.2.2.2)).bind fun y50 =>
  some (y50.2.2.2.2.2, y50.1, y50.2.1, y50.2.2.1, y50.2.2.2.1)
def f62.F (K : Nat) (x : f62.Ty4) : Option (f62.Ty4) := f62.T K x.1 x.2.1 x.2.2.1 x.2.2.2.1 x.2.2.2.2
def f62.av (x : f62.Ty4) : List VV := [.agg [.ints .u32 8 x.1], .ptr 0 1]
def f62.bl (x : f62.Ty4) : List (Nat × Blk) := [(0, ([.ptr 1 0, .ints .u8 64 x.2.1, .int .i64 x.2.2.1, .int .u64 x.2.2.2.1], 30, .norm)), (1, ([.ints .u32 8 x.2.2.2.2], 110, .norm))]
def f62.inA : VS → Option (f62.Ty4)
  | ⟨[(0, .agg [.ints .u32 8 a0]), (1, .ptr 0 1)], [(0, ([.ptr 1 0, .ints .u8 64 m0_0, .int .i64 m0_1, .int .u64 m0_2], 30, .norm)), (1, ([.ints .u32 8 m1], 110, .norm))], 2⟩ => some (a0, m0_0, m0_1, m0_2, m1)
  | _ => none
def f62.o0 (y : f62.Ty4) : VS := ⟨[(0, .agg [.ints .u32 8 y.1])], [(0, ([.ptr 1 0, .ints .u8 64 y.2.1, .int .i64 y.2.2.1, .int .u64 y.2.2.2.1], 30, .norm)), (1, ([.ints .u32 8 y.2.2.2.2], 110, .norm))], 2⟩
def f62.des : ∀ α : Type, (f62.Ty4) → (VS → Option α) → Option α := (dv1 f62.o0)
def f62.out : f62.Ty4 → VS := f62.o0
def f62.inR : VS → Option (f62.Ty4)
  | ⟨[(0, .agg [.ints .u32 8 y])], [(0, ([.ptr 1 0, .ints .u8 64 z0_0, .int .i64 z0_1, .int .u64 z0_2], 30, .norm)), (1, ([.ints .u32 8 z1], 110, .norm))], 2⟩ => some (y, z0_0, z0_1, z0_2, z1)
  | _ => none
noncomputable def f62.E (K : Nat) : Entry := genE 2 f62.inA (f62.F K) f62.des
theorem f62.eq (K : Nat) (x : f62.Ty4) : f62.F K x = xrun (getA tys) (tabSp (f62.tab K)) Try.f62.ntmps 2 (f62.lp K) 400 f62.c ⟨initL 0 (f62.av x), f62.bl x, 2⟩ (contF (getA tys) 2 Try.f62.results.toList f62.inR) := by kernel_rfl
theorem f62.ok (K : Nat) : EntryOK Try.prog 62 (f62.E K) :=
  gen_ok mix tys_ok (f62.tabOK K) Try.func62 (by kernel_rfl : Try.f62.body = some f62.c) (by kernel_rfl) (f62.loops K) (av := f62.av) (bl := f62.bl) (out := f62.out) (fuel := 400)
    (by intro s x h; unfold f62.inA at h; split at h <;> simp at h; subst h; rfl) (fun _ => Nat.le_of_ble_eq_true rfl)
    (by intro s y h; unfold f62.inR at h; split at h <;> simp at h <;> subst h <;> rfl) (fun _ _ _ => rfl) (f62.eq K)
end Go.Proofs

namespace Go.Proofs
open Go.VM
def Sh.rot (x u v : Int) : Int := bits .or .u32 (shiftI .shl .u32 x u) (shiftI .shr .u32 x v)
def Sh.downs (x : Int) (L : List Nat) : Int := L.foldl (fun a k => bits .xor .u32 a (Sh.rot x ((32 - k : Nat) : Int) (k : Int))) 0
theorem Sh.turn : ∀ k : Fin 32, 1 ≤ k.val → bits .and .u64 (IntKind.wrap .u64 (IntKind.wrap .i64 (0 - (k.val : Int)))) 31 = ((32 - k.val : Nat) : Int) ∧ IntKind.wrap .u64 (32 - ((32 - k.val : Nat) : Int)) = (k.val : Int) := by decide +kernel
theorem f91.spec (K : Nat) (x : Int) (k : Nat) (h1 : 1 ≤ k) (h2 : k ≤ 31) : f91.F K (x, IntKind.wrap .i64 (0 - (k : Int))) = some (Sh.rot x ((32 - k : Nat) : Int) (k : Int)) := by
  obtain ⟨e1, e2⟩ := Sh.turn ⟨k, by omega⟩ h1
  simp only [f91.F, f91.T]
  simp only [] at e1 e2
  rw [e1, e2, decide_eq_true (show (0 : Int) ≤ ((32 - k : Nat) : Int) by omega), cond_t, decide_eq_true (show (0 : Int) ≤ (k : Int) by omega), cond_t, Sh.rot]
theorem f78.spec (K : Nat) (x : Int) (L : List Nat) (n : Nat) (hn : L.length = n) (h : ∀ k ∈ L, 1 ≤ k ∧ k ≤ 31) (hK : n < K) (hs : n < 1000000) :
    f78.F K (x, n, n, L.map fun k : Nat => (k : Int)) = some (Sh.downs x L, n, L.map fun k : Nat => (k : Int)) := by
  have := iter_for (stp := f78.s0 K) (N := n) (fun i => (x, Sh.downs x (L.take i), n, ((n : Nat) : Int), (i : Int), n, L.map fun k : Nat => (k : Int))) (y := some (Sh.downs x L, n, L.map fun k : Nat => (k : Int))) ?_ ?_ hK
  · simp only [f78.F, f78.T]
    rw [show iter (f78.s0 K) K (x, 0, n, ((n : Nat) : Int), 0, n, L.map fun k : Nat => (k : Int)) = _ from this, bind_s]
  · intro i hi rec
    simp only [f78.s0, f78.s0t]
    have hm : i < L.length := by omega
    have hg : List.getD (L.map fun k : Nat => (k : Int)) i 0 = ((L[i] : Nat) : Int) := by simp [List.getD_eq_getElem?_getD, hm]
    obtain ⟨h1, h2⟩ := h L[i] (List.getElem_mem hm)
    rw [decide_eq_true (show (i : Int) < ((n : Nat) : Int) by omega), cond_t, decide_eq_true (show (0 : Int) ≤ (i : Int) ∧ (i : Int) < ((n : Nat) : Int) by omega), cond_t, Int.toNat_natCast, Nat.zero_add, show Nat.blt i n = true from by simp [Nat.blt_eq]; omega, cond_t, hg, f91.spec K x _ h1 h2, bind_s, wrap_i _ (by omega) (by omega)]
    have e : L.take (i + 1) = L.take i ++ [L[i]] := by rw [List.take_add_one, List.getElem?_eq_getElem hm]; rfl
    rw [e, Sh.downs, Sh.downs, List.foldl_append]
    rfl
  · intro rec
    simp only [f78.s0, f78.s0t]
    rw [decide_eq_false (show ¬ ((n : Nat) : Int) < ((n : Nat) : Int) by omega), cond_f, List.take_of_length_le (by omega)]
def Sh.sched (w b : List Int) (t : Nat) : List Int :=
  if t < 16 then setD w (t % 16) (IntKind.wrap .u32 ((tv (subI b (4 * t) 4) : Nat) : Int))
  else
    let x := List.getD w ((t + 1) % 16) 0
    let y := List.getD w ((t + 14) % 16) 0
    let w1 := setD w (t % 16) (IntKind.wrap .u32 ((List.getD w (t % 16) 0) + (bits .xor .u32 (Sh.downs x [7, 18]) (Int.fdiv x (2 ^ 3)))))
    let w2 := setD w1 (t % 16) (IntKind.wrap .u32 ((List.getD w1 (t % 16) 0) + (bits .xor .u32 (Sh.downs y [17, 19]) (Int.fdiv y (2 ^ 10)))))
    setD w2 (t % 16) (IntKind.wrap .u32 ((List.getD w2 (t % 16) 0) + (List.getD w2 ((t + 9) % 16) 0)))
theorem f90.spec (K t : Nat) (w b s : List Int) (hd mn : Int) (ht : t < 64) (ho : octets b) (hK : 8 < K) :
    f90.F K (w, (t : Int), b, hd, mn, s) = some (List.getD (Sh.sched w b t) (t % 16) 0, Sh.sched w b t, ((t + 1 : Nat) : Int), b, hd, mn, s) := by
  simp only [f90.F, f90.T]
  have m0 : Int.tmod (t : Int) 16 = ((t % 16 : Nat) : Int) := tmod_nat t 16
  have m1 : ∀ k : Nat, k < 100 → Int.tmod (IntKind.wrap .i64 ((t : Int) + (k : Int))) 16 = (((t + k) % 16 : Nat) : Int) := fun k hk => by
    rw [wrap_i _ (by omega) (by omega), show ((t : Int) + (k : Int)) = ((t + k : Nat) : Int) by omega]; exact tmod_nat (t + k) 16
  have m2 : ∀ k : Nat, decide ((0 : Int) ≤ ((k % 16 : Nat) : Int) ∧ ((k % 16 : Nat) : Int) < 16) = true := fun k => decide_eq_true (by omega)
  have e1 : Int.tmod (IntKind.wrap .i64 ((t : Int) + 1)) 16 = (((t + 1) % 16 : Nat) : Int) := m1 1 (by omega)
  have e14 : Int.tmod (IntKind.wrap .i64 ((t : Int) + 14)) 16 = (((t + 14) % 16 : Nat) : Int) := m1 14 (by omega)
  have e9 : Int.tmod (IntKind.wrap .i64 ((t : Int) + 9)) 16 = (((t + 9) % 16 : Nat) : Int) := m1 9 (by omega)
  have et : IntKind.wrap .i64 ((t : Int) + 1) = ((t + 1 : Nat) : Int) := by rw [wrap_i _ (by omega) (by omega)]; omega
  rw [m0, m2, cond_t]
  rcases Nat.lt_or_ge t 16 with h | h
  · rw [decide_eq_true (show (t : Int) < 16 by omega), cond_t]
    have e4 : IntKind.wrap .i64 (4 * (t : Int)) = ((4 * t : Nat) : Int) := by rw [wrap_i _ (by omega) (by omega)]; omega
    have e6 : (bif Nat.beq 64 (4 * t) then 0 else 4 * t) = 4 * t := by
      rw [show Nat.beq 64 (4 * t) = false from (by rw [← Bool.not_eq_true, Nat.beq_eq]; omega), cond_f]
    have es := f83.spec K (64 - 4 * t) 4 (subI b (4 * t) (64 - 4 * t)) (subI_length _ _ _) (octets_sub ho _ _) (by omega) (by omega) (by omega) hK
    have ek : (subI b (4 * t) (64 - 4 * t)).take 4 = subI b (4 * t) 4 := by
      rw [subI, subI, ← List.map_take, List.take_range, Nat.min_eq_left (by omega)]
    rw [ek] at es
    rw [e4, decide_eq_true (show (0 : Int) ≤ ((4 * t : Nat) : Int) ∧ ((4 * t : Nat) : Int) ≤ 64 by omega), cond_t]
    simp only [Int.toNat_natCast]
    rw [e6, ble_true (show 4 * t + (64 - 4 * t) ≤ 64 by omega), ble_true (Nat.le_refl (64 - 4 * t)), Bool.and_self, Bool.and_self, cond_t, show ((4 : Int)) = ((4 : Nat) : Int) from rfl, es, bind_s, et]
    simp only [Sh.sched, if_pos h]
  · rw [decide_eq_false (show ¬ (t : Int) < 16 by omega), cond_f, e1, m2, cond_t, e14, m2, cond_t]
    simp only [Int.toNat_natCast]
    have d1 := f78.spec K (List.getD w ((t + 1) % 16) 0) [7, 18] 2 rfl (by decide) (by omega) (by omega)
    have d2 := f78.spec K (List.getD w ((t + 14) % 16) 0) [17, 19] 2 rfl (by decide) (by omega) (by omega)
    simp only [List.map_cons, List.map_nil] at d1 d2
    rw [show ((7 : Int)) = ((7 : Nat) : Int) from rfl, show ((18 : Int)) = ((18 : Nat) : Int) from rfl, d1, bind_s, show ((17 : Int)) = ((17 : Nat) : Int) from rfl, show ((19 : Int)) = ((19 : Nat) : Int) from rfl, d2, bind_s, e9, m2, cond_t, et]
    simp only [Sh.sched, if_neg (show ¬ t < 16 by omega), Int.toNat_natCast]
def Sh.consts : List Int := [1116352408, 1899447441, 3049323471, 3921009573, 961987163, 1508970993, 2453635748, 2870763221, 3624381080, 310598401, 607225278, 1426881987, 1925078388, 2162078206, 2614888103, 3248222580, 3835390401, 4022224774, 264347078, 604807628, 770255983, 1249150122, 1555081692, 1996064986, 2554220882, 2821834349, 2952996808, 3210313671, 3336571891, 3584528711, 113926993, 338241895, 666307205, 773529912, 1294757372, 1396182291, 1695183700, 1986661051, 2177026350, 2456956037, 2730485921, 2820302411, 3259730800, 3345764771, 3516065817, 3600352804, 4094571909, 275423344, 430227734, 506948616, 659060556, 883997877, 958139571, 1322822218, 1537002063, 1747873779, 1955562222, 2024104815, 2227730452, 2361852424, 2428436474, 2756734187, 3204031479, 3329325298]
def Sh.step (b : List Int) (t : Nat) (vw : List Int × List Int) : List Int × List Int :=
  let v := vw.1
  let w := Sh.sched vw.2 b t
  let t1 := IntKind.wrap .u32 ((IntKind.wrap .u32 ((IntKind.wrap .u32 ((IntKind.wrap .u32 ((List.getD v 7 0) + Sh.downs (List.getD v 4 0) [6, 11, 25])) + (bits .or .u32 (bits .and .u32 (List.getD v 4 0) (List.getD v 5 0)) (bits .and .u32 (bits .xor .u32 4294967295 (List.getD v 4 0)) (List.getD v 6 0))))) + (List.getD Sh.consts t 0))) + List.getD w (t % 16) 0)
  let v33 := spl v 1 7 (subI v 0 7)
  (setD (setD v33 4 (IntKind.wrap .u32 ((List.getD v33 4 0) + t1))) 0 (IntKind.wrap .u32 (t1 + (IntKind.wrap .u32 (Sh.downs (List.getD v 0 0) [2, 13, 22] + (bits .xor .u32 (bits .and .u32 (List.getD v 0 0) (bits .xor .u32 (List.getD v 1 0) (List.getD v 2 0))) (bits .and .u32 (List.getD v 1 0) (List.getD v 2 0))))))), w)
def Sh.rounds (s b : List Int) : Nat → List Int × List Int
  | 0 => (s, [0, 0, 0, 0, 0, 0, 0, 0, 0, 0, 0, 0, 0, 0, 0, 0])
  | t + 1 => Sh.step b t (Sh.rounds s b t)
def Sh.added (v s : List Int) : Nat → List Int
  | 0 => s
  | i + 1 => setD (Sh.added v s i) i (IntKind.wrap .u32 (List.getD (Sh.added v s i) i 0 + List.getD v i 0))
def Sh.comp (s b : List Int) : List Int := Sh.added s (Sh.rounds s b 64).1 8
theorem f62.rounds (K : Nat) (s b : List Int) (hd mn : Int) (ho : octets b) (hK : 64 < K) (z : List Int) :
    iter (f62.s0 K) K (Sh.consts, 0, b, hd, mn, s, s, z, s, [0, 0, 0, 0, 0, 0, 0, 0, 0, 0, 0, 0, 0, 0, 0, 0], 0) = some (b, hd, mn, s, s, z, (Sh.rounds s b 64).1) := by
  have := iter_for (stp := f62.s0 K) (N := 64) (fun i => (Sh.consts, (i : Int), b, hd, mn, s, s, z, (Sh.rounds s b i).1, (Sh.rounds s b i).2, (i : Int))) (y := some (b, hd, mn, s, s, z, (Sh.rounds s b 64).1)) ?_ ?_ hK
  · exact this
  · intro i hi rec
    simp only [f62.s0, f62.s0t]
    have d1 := f78.spec K (List.getD (Sh.rounds s b i).1 4 0) [6, 11, 25] 3 rfl (by decide) (by omega) (by omega)
    have d2 := f78.spec K (List.getD (Sh.rounds s b i).1 0 0) [2, 13, 22] 3 rfl (by decide) (by omega) (by omega)
    simp only [List.map_cons, List.map_nil] at d1 d2
    rw [decide_eq_true (show (i : Int) < 64 by omega), cond_t, decide_eq_true (show (0 : Int) ≤ (i : Int) ∧ (i : Int) < 64 by omega), cond_t]
    rw [show ((6 : Int)) = ((6 : Nat) : Int) from rfl, show ((11 : Int)) = ((11 : Nat) : Int) from rfl, show ((25 : Int)) = ((25 : Nat) : Int) from rfl, d1, bind_s, f90.spec K i _ b s hd mn hi ho (by omega), bind_s]
    rw [show ((2 : Int)) = ((2 : Nat) : Int) from rfl, show ((13 : Int)) = ((13 : Nat) : Int) from rfl, show ((22 : Int)) = ((22 : Nat) : Int) from rfl, d2, bind_s, wrap_i _ (by omega) (by omega)]
    rfl
  · intro rec
    simp only [f62.s0, f62.s0t]
    rfl
theorem f62.sums (K : Nat) (s v b : List Int) (hd mn : Int) (a1 a2 : List Int) (hK : 8 < K) :
    iter (f62.s2 K) K (v, 0, b, hd, mn, a1, a2, s) = some (b, hd, mn, a1, a2, Sh.added v s 8) := by
  have := iter_for (stp := f62.s2 K) (N := 8) (fun i => (v, (i : Int), b, hd, mn, a1, a2, Sh.added v s i)) (y := some (b, hd, mn, a1, a2, Sh.added v s 8)) ?_ ?_ hK
  · exact this
  · intro i hi rec
    simp only [f62.s2, f62.s2t]
    rw [decide_eq_true (show (i : Int) < 8 by omega), cond_t, decide_eq_true (show (0 : Int) ≤ (i : Int) ∧ (i : Int) < 8 by omega), cond_t, cond_t, cond_t, Int.toNat_natCast, wrap_i _ (by omega) (by omega)]
    rfl
  · intro rec
    simp only [f62.s2, f62.s2t]
    rfl
theorem f62.spec (K : Nat) (s b : List Int) (hd mn : Int) (ho : octets b) (hK : 64 < K) : f62.F K (s, b, hd, mn, s) = some (Sh.comp s b, b, hd, mn, s) := by
  simp only [f62.F, f62.T]
  rw [show f76.F K (b, hd, mn, s) = some (b, hd, mn, s, [0, 0, 0, 0, 0, 0, 0, 0, 0, 0, 0, 0, 0, 0, 0, 0], 0) from rfl, bind_s, show f77.F K () = some Sh.consts from rfl, bind_s]
  simp only []
  rw [f62.rounds K s b hd mn ho hK, bind_s]
  simp only []
  rw [f62.sums K _ s b hd mn s [0, 0, 0, 0, 0, 0, 0, 0] (by omega), bind_s]
  rfl
end Go.Proofs

namespace Go.Proofs
open Go.VM
abbrev f40v2.Ty0 := Nat × Nat × List Int × Int × Int × Nat × Nat × Nat × List Int × Nat × List Int × List Int
abbrev f40v2.Ty1 := List Int × Int × Int × Nat × Nat × Nat × List Int × Nat × List Int × List Int
abbrev f40v2.Ty2 := List Int × Int × Int × Nat × Nat × List Int × Nat × List Int × Nat × List Int
noncomputable def f40v2.c : Code := bodyOf Try.f40
def f40v2.s2t (K : Nat) (rec : f40v2.Ty0 → Option (f40v2.Ty1)) (t5_0 : Nat) (t5_1 : Nat) (b0_0 : List Int) (b0_1 : Int) (b0_2 : Int) (b1_0 : Nat) (b1_1 : Nat) (b4_0 : Nat) (b4_1 : List Int) (b6_0 : Nat) (b6_1 : List Int) (b9 : List Int) : Option (f40v2.Ty1) :=
  bif (decide (((t5_1 : Nat) : Int) > 0)) then
    bif decide (0 ≤ b0_1 ∧ b0_1 ≤ 64) then
      let v6 := bif Nat.beq 64 (Int.toNat b0_1) then 0 else (Int.toNat b0_1)
      let v7 := 64 - (Int.toNat b0_1)
      bif (((Nat.ble (t5_0 + t5_1) b4_0 && true) && (Nat.ble (v6 + v7) 64)) && (Nat.beq t5_1 t5_1)) then
        let v9 := ((Nat.min t5_1 v7 : Nat) : Int)
        let v10 := spl b0_0 v6 (Nat.min t5_1 v7) (subI b4_1 t5_0 t5_1)
        bif decide (0 ≤ v9 ∧ v9 ≤ ((t5_1 : Nat) : Int)) then
          let v11 := t5_0 + (Int.toNat v9)
          let v12 := t5_1 - (Int.toNat v9)
          let v13 := IntKind.wrap .i64 (b0_1 + v9)
          bif (v13 == 64) then
            (f62.F K (b9, v10, v13, b0_2, b9)).bind fun y14 =>
            rec (v11, v12, y14.2.1, 0, y14.2.2.2.1, b1_0, b1_1, b4_0, b4_1, b6_0, b6_1, y14.1)
          else
            rec (v11, v12, v10, v13, b0_2, b1_0, b1_1, b4_0, b4_1, b6_0, b6_1, b9)
        else
          none
      else
        none
    else
      none
  else
    some (b0_0, b0_1, b0_2, b1_0, b1_1, b4_0, b4_1, b6_0, b6_1, b9)
def f40v2.s2 (K : Nat) (rec : f40v2.Ty0 → Option (f40v2.Ty1)) (x : f40v2.Ty0) : Option (f40v2.Ty1) := f40v2.s2t K rec x.1 x.2.1 x.2.2.1 x.2.2.2.1 x.2.2.2.2.1 x.2.2.2.2.2.1 x.2.2.2.2.2.2.1 x.2.2.2.2.2.2.2.1 x.2.2.2.2.2.2.2.2.1 x.2.2.2.2.2.2.2.2.2.1 x.2.2.2.2.2.2.2.2.2.2.1 x.2.2.2.2.2.2.2.2.2.2.2
noncomputable def f40v2.s2.b : Code := (findLoop 2 f40v2.c).getD .skip
def f40v2.s2.h : Hint := { lv := [0, 5, 8, 9, 10], co := [(5, 0, [])], mv := [3] }
def f40v2.s2.ho : Hint := { lv := [0, 8, 9, 10] }
def f40v2.s2.shp (x : f40v2.Ty0) : VS := ⟨[(0, .ptr 0 0), (5, .vw true 4 x.1 x.2.1 8), (8, .vw true 1 0 2 2), (9, .int .i64 2), (10, .int .i64 0)], [(0, ([.ptr 9 0, .ints .u8 64 x.2.2.1, .int .i64 x.2.2.2.1, .int .u64 x.2.2.2.2.1], 30, .norm)), (1, ([.vw true 4 0 x.2.2.2.2.2.1 5, .vw true 6 0 x.2.2.2.2.2.2.1 7], 0, .ro)), (3, ([], 110, .dead)), (4, ([.ints .u8 x.2.2.2.2.2.2.2.1 x.2.2.2.2.2.2.2.2.1], 0, .ro)), (6, ([.ints .u8 x.2.2.2.2.2.2.2.2.2.1 x.2.2.2.2.2.2.2.2.2.2.1], 0, .ro)), (9, ([.ints .u32 8 x.2.2.2.2.2.2.2.2.2.2.2], 110, .norm))], 10⟩
def f40v2.s2.inX : VS → Option (f40v2.Ty0)
  | ⟨[(0, .ptr 0 0), (5, .vw true 4 t5_0 t5_1 8), (8, .vw true 1 0 2 2), (9, .int .i64 2), (10, .int .i64 0)], [(0, ([.ptr 9 0, .ints .u8 64 b0_0, .int .i64 b0_1, .int .u64 b0_2], 30, .norm)), (1, ([.vw true 4 0 b1_0 5, .vw true 6 0 b1_1 7], 0, .ro)), (3, ([], 110, .dead)), (4, ([.ints .u8 b4_0 b4_1], 0, .ro)), (6, ([.ints .u8 b6_0 b6_1], 0, .ro)), (9, ([.ints .u32 8 b9], 110, .norm))], 10⟩ => some (t5_0, t5_1, b0_0, b0_1, b0_2, b1_0, b1_1, b4_0, b4_1, b6_0, b6_1, b9)
  | _ => none
def f40v2.s2.o0 (y : f40v2.Ty1) : VS := ⟨[(0, .ptr 0 0), (8, .vw true 1 0 2 2), (9, .int .i64 2), (10, .int .i64 0)], [(0, ([.ptr 8 0, .ints .u8 64 y.1, .int .i64 y.2.1, .int .u64 y.2.2.1], 30, .norm)), (1, ([.vw true 4 0 y.2.2.2.1 5, .vw true 6 0 y.2.2.2.2.1 7], 0, .ro)), (3, ([], 110, .dead)), (4, ([.ints .u8 y.2.2.2.2.2.1 y.2.2.2.2.2.2.1], 0, .ro)), (6, ([.ints .u8 y.2.2.2.2.2.2.2.1 y.2.2.2.2.2.2.2.2.1], 0, .ro)), (8, ([.ints .u32 8 y.2.2.2.2.2.2.2.2.2], 110, .norm))], 9⟩
def f40v2.s2.des : ∀ α : Type, (f40v2.Ty1) → (Ex → VS → Option α) → Option α := (des1 (.exit 2) f40v2.s2.o0)
def f40v2.s2.out : f40v2.Ty1 → Ex × VS := (fun y => (.exit 2, f40v2.s2.o0 y))
theorem f40v2.s2.desOK : ∀ α y (k : Ex → VS → Option α), f40v2.s2.des α y k = k (f40v2.s2.out y).1 (f40v2.s2.out y).2 := (fun _ _ _ => rfl)
def f40v2.s2.inY : Ex → VS → Option (f40v2.Ty1)
  | .exit 2, ⟨[(0, .ptr 0 0), (8, .vw true 1 0 2 2), (9, .int .i64 2), (10, .int .i64 0)], [(0, ([.ptr 8 0, .ints .u8 64 b0_0, .int .i64 b0_1, .int .u64 b0_2], 30, .norm)), (1, ([.vw true 4 0 b1_0 5, .vw true 6 0 b1_1 7], 0, .ro)), (3, ([], 110, .dead)), (4, ([.ints .u8 b4_0 b4_1], 0, .ro)), (6, ([.ints .u8 b6_0 b6_1], 0, .ro)), (8, ([.ints .u32 8 b8], 110, .norm))], 9⟩ => some (b0_0, b0_1, b0_2, b1_0, b1_1, b4_0, b4_1, b6_0, b6_1, b8)
  | _, _ => none
def f40v2.s2bt (K : Nat) (rec : f40v2.Ty0 → Option (f40v2.Ty1)) (t5_0 : Nat) (t5_1 : Nat) (b0_0 : List Int) (b0_1 : Int) (b0_2 : Int) (b1_0 : Nat) (b1_1 : Nat) (b4_0 : Nat) (b4_1 : List Int) (b6_0 : Nat) (b6_1 : List Int) (b9 : List Int) : Option (f40v2.Ty1) :=
  bif (decide (((t5_1 : Nat) : Int) > 0)) then
    bif decide (0 ≤ b0_1 ∧ b0_1 ≤ 64) then
      let v22 := bif Nat.beq 64 (Int.toNat b0_1) then 0 else (Int.toNat b0_1)
      let v23 := 64 - (Int.toNat b0_1)
      bif (((Nat.ble (t5_0 + t5_1) b6_0 && true) && (Nat.ble (v22 + v23) 64)) && (Nat.beq t5_1 t5_1)) then
        let v25 := ((Nat.min t5_1 v23 : Nat) : Int)
        let v26 := spl b0_0 v22 (Nat.min t5_1 v23) (subI b6_1 t5_0 t5_1)
        bif decide (0 ≤ v25 ∧ v25 ≤ ((t5_1 : Nat) : Int)) then
          let v27 := t5_0 + (Int.toNat v25)
          let v28 := t5_1 - (Int.toNat v25)
          let v29 := IntKind.wrap .i64 (b0_1 + v25)
          bif (v29 == 64) then
            (f62.F K (b9, v26, v29, b0_2, b9)).bind fun y30 =>
            rec (v27, v28, y30.2.1, 0, y30.2.2.2.1, b1_0, b1_1, b4_0, b4_1, b6_0, b6_1, y30.1)
          else
            rec (v27, v28, v26, v29, b0_2, b1_0, b1_1, b4_0, b4_1, b6_0, b6_1, b9)
        else
          none
      else
        none
    else
      none
  else
    some (b0_0, b0_1, b0_2, b1_0, b1_1, b4_0, b4_1, b6_0, b6_1, b9)
def f40v2.s2b (K : Nat) (rec : f40v2.Ty0 → Option (f40v2.Ty1)) (x : f40v2.Ty0) : Option (f40v2.Ty1) := f40v2.s2bt K rec x.1 x.2.1 x.2.2.1 x.2.2.2.1 x.2.2.2.2.1 x.2.2.2.2.2.1 x.2.2.2.2.2.2.1 x.2.2.2.2.2.2.2.1 x.2.2.2.2.2.2.2.2.1 x.2.2.2.2.2.2.2.2.2.1 x.2.2.2.2.2.2.2.2.2.2.1 x.2.2.2.2.2.2.2.2.2.2.2
noncomputable def f40v2.s2b.b : Code := (findLoop 2 f40v2.c).getD .skip
def f40v2.s2b.h : Hint := { lv := [0, 5, 8, 9, 10], co := [(5, 0, [])], mv := [3] }
def f40v2.s2b.ho : Hint := { lv := [0, 8, 9, 10] }
def f40v2.s2b.shp (x : f40v2.Ty0) : VS := ⟨[(0, .ptr 0 0), (5, .vw true 6 x.1 x.2.1 8), (8, .vw true 1 0 2 2), (9, .int .i64 2), (10, .int .i64 1)], [(0, ([.ptr 9 0, .ints .u8 64 x.2.2.1, .int .i64 x.2.2.2.1, .int .u64 x.2.2.2.2.1], 30, .norm)), (1, ([.vw true 4 0 x.2.2.2.2.2.1 5, .vw true 6 0 x.2.2.2.2.2.2.1 7], 0, .ro)), (3, ([], 110, .dead)), (4, ([.ints .u8 x.2.2.2.2.2.2.2.1 x.2.2.2.2.2.2.2.2.1], 0, .ro)), (6, ([.ints .u8 x.2.2.2.2.2.2.2.2.2.1 x.2.2.2.2.2.2.2.2.2.2.1], 0, .ro)), (9, ([.ints .u32 8 x.2.2.2.2.2.2.2.2.2.2.2], 110, .norm))], 10⟩
def f40v2.s2b.inX : VS → Option (f40v2.Ty0)
  | ⟨[(0, .ptr 0 0), (5, .vw true 6 t5_0 t5_1 8), (8, .vw true 1 0 2 2), (9, .int .i64 2), (10, .int .i64 1)], [(0, ([.ptr 9 0, .ints .u8 64 b0_0, .int .i64 b0_1, .int .u64 b0_2], 30, .norm)), (1, ([.vw true 4 0 b1_0 5, .vw true 6 0 b1_1 7], 0, .ro)), (3, ([], 110, .dead)), (4, ([.ints .u8 b4_0 b4_1], 0, .ro)), (6, ([.ints .u8 b6_0 b6_1], 0, .ro)), (9, ([.ints .u32 8 b9], 110, .norm))], 10⟩ => some (t5_0, t5_1, b0_0, b0_1, b0_2, b1_0, b1_1, b4_0, b4_1, b6_0, b6_1, b9)
  | _ => none
def f40v2.s2b.o0 (y : f40v2.Ty1) : VS := ⟨[(0, .ptr 0 0), (8, .vw true 1 0 2 2), (9, .int .i64 2), (10, .int .i64 1)], [(0, ([.ptr 8 0, .ints .u8 64 y.1, .int .i64 y.2.1, .int .u64 y.2.2.1], 30, .norm)), (1, ([.vw true 4 0 y.2.2.2.1 5, .vw true 6 0 y.2.2.2.2.1 7], 0, .ro)), (3, ([], 110, .dead)), (4, ([.ints .u8 y.2.2.2.2.2.1 y.2.2.2.2.2.2.1], 0, .ro)), (6, ([.ints .u8 y.2.2.2.2.2.2.2.1 y.2.2.2.2.2.2.2.2.1], 0, .ro)), (8, ([.ints .u32 8 y.2.2.2.2.2.2.2.2.2], 110, .norm))], 9⟩
def f40v2.s2b.des : ∀ α : Type, (f40v2.Ty1) → (Ex → VS → Option α) → Option α := (des1 (.exit 2) f40v2.s2b.o0)
def f40v2.s2b.out : f40v2.Ty1 → Ex × VS := (fun y => (.exit 2, f40v2.s2b.o0 y))
theorem f40v2.s2b.desOK : ∀ α y (k : Ex → VS → Option α), f40v2.s2b.des α y k = k (f40v2.s2b.out y).1 (f40v2.s2b.out y).2 := (fun _ _ _ => rfl)
def f40v2.s2b.inY : Ex → VS → Option (f40v2.Ty1)
  | .exit 2, ⟨[(0, .ptr 0 0), (8, .vw true 1 0 2 2), (9, .int .i64 2), (10, .int .i64 1)], [(0, ([.ptr 8 0, .ints .u8 64 b0_0, .int .i64 b0_1, .int .u64 b0_2], 30, .norm)), (1, ([.vw true 4 0 b1_0 5, .vw true 6 0 b1_1 7], 0, .ro)), (3, ([], 110, .dead)), (4, ([.ints .u8 b4_0 b4_1], 0, .ro)), (6, ([.ints .u8 b6_0 b6_1], 0, .ro)), (8, ([.ints .u32 8 b8], 110, .norm))], 9⟩ => some (b0_0, b0_1, b0_2, b1_0, b1_1, b4_0, b4_1, b6_0, b6_1, b8)
  | _, _ => none
def f40v2.lp (K : Nat) : Nat → Option (Hint × Summ) := tabLp [(2, f40v2.s2.h, summOr f40v2.s2.inX (summOf (iter (f40v2.s2 K) K) f40v2.s2.inX f40v2.s2.des) (summOf (iter (f40v2.s2b K) K) f40v2.s2b.inX f40v2.s2b.des))]
noncomputable def f40v2.tab (K : Nat) : List (Nat × Entry) := [(62, (f62.E K))]
theorem f40v2.tabOK (K : Nat) : SpecOK Try.prog (tabSp (f40v2.tab K)) := tab_ok ((tab_cons (f62.ok K) tab_nil))
theorem f40v2.s2.eq (K : Nat) (rec : f40v2.Ty0 → Option (f40v2.Ty1)) (x : f40v2.Ty0) : f40v2.s2 K rec x = roundL (getA tys) (tabSp (f40v2.tab K)) 76 8 (f40v2.lp K) 400 f40v2.s2.b f40v2.s2.h f40v2.s2.ho f40v2.s2.shp f40v2.s2.inX f40v2.s2.inY rec x := by kernel_rfl
theorem f40v2.s2.lok (K : Nat) : LoopsOK Try.prog 76 8 (f40v2.lp K) f40v2.s2.b := loops_ok (by
  have h : loopsIn (f40v2.lp K) f40v2.s2.b = [] := by kernel_rfl
  rw [h]; simp)
theorem f40v2.s2.ok (K : Nat) : SummOK Try.prog 76 8 (summOf (iter (f40v2.s2 K) K) f40v2.s2.inX f40v2.s2.des) f40v2.s2.b :=
  loop_ok mix tys_ok (f40v2.tabOK K) (h := f40v2.s2.h) (ho := f40v2.s2.ho) (shp := f40v2.s2.shp) (inX := f40v2.s2.inX) (des := f40v2.s2.des) (out := f40v2.s2.out) (inY := f40v2.s2.inY) (fuel := 400)
    (by intro st x h; unfold f40v2.s2.inX at h; split at h <;> simp at h; subst h; rfl)
    (by intro e st y h; unfold f40v2.s2.inY at h; split at h <;> simp at h <;> subst h <;> rfl)
    f40v2.s2.desOK (f40v2.s2.lok K) (f40v2.s2 K) (f40v2.s2.eq K) K
theorem f40v2.s2b.eq (K : Nat) (rec : f40v2.Ty0 → Option (f40v2.Ty1)) (x : f40v2.Ty0) : f40v2.s2b K rec x = roundL (getA tys) (tabSp (f40v2.tab K)) 76 8 (f40v2.lp K) 400 f40v2.s2b.b f40v2.s2b.h f40v2.s2b.ho f40v2.s2b.shp f40v2.s2b.inX f40v2.s2b.inY rec x := by kernel_rfl
theorem f40v2.s2b.lok (K : Nat) : LoopsOK Try.prog 76 8 (f40v2.lp K) f40v2.s2b.b := loops_ok (by
  have h : loopsIn (f40v2.lp K) f40v2.s2b.b = [] := by kernel_rfl
  rw [h]; simp)
theorem f40v2.s2b.ok (K : Nat) : SummOK Try.prog 76 8 (summOf (iter (f40v2.s2b K) K) f40v2.s2b.inX f40v2.s2b.des) f40v2.s2b.b :=
  loop_ok mix tys_ok (f40v2.tabOK K) (h := f40v2.s2b.h) (ho := f40v2.s2b.ho) (shp := f40v2.s2b.shp) (inX := f40v2.s2b.inX) (des := f40v2.s2b.des) (out := f40v2.s2b.out) (inY := f40v2.s2b.inY) (fuel := 400)
    (by intro st x h; unfold f40v2.s2b.inX at h; split at h <;> simp at h; subst h; rfl)
    (by intro e st y h; unfold f40v2.s2b.inY at h; split at h <;> simp at h <;> subst h <;> rfl)
    f40v2.s2b.desOK (f40v2.s2b.lok K) (f40v2.s2b K) (f40v2.s2b.eq K) K
theorem f40v2.loops (K : Nat) : LoopsOK Try.prog 76 8 (f40v2.lp K) f40v2.c := loops_ok (by
  have h : loopsIn (f40v2.lp K) f40v2.c = [(2, f40v2.s2.b)] := by kernel_rfl
  rw [h]
  intro p hp
  simp only [List.mem_cons, List.not_mem_nil, or_false] at hp
  rcases hp with rfl
  · exact ⟨_, rfl, (summOr_ok (f40v2.s2.ok K) (f40v2.s2b.ok K))⟩)
def f40v2.T (K : Nat) (m0_0 : List Int) (m0_1 : Int) (m0_2 : Int) (m1_0 : Nat) (m1_1 : Nat) (m3 : List Int) (m4_0 : Nat) (m4_1 : List Int) (m6_0 : Nat) (m6_1 : List Int) : Option (f40v2.Ty1) :=
  (iter (f40v2.s2 K) K (0, m1_0, m0_0, m0_1, (IntKind.wrap .u64 (m0_2 + (IntKind.wrap .u64 ((m1_0 : Nat) : Int)))), m1_0, m1_1, m4_0, m4_1, m6_0, m6_1, m3)).bind fun y15 =>
  let v16 := y15.2.2.2.2.1
  (iter (f40v2.s2b K) K (0, v16, y15.1, y15.2.1, (IntKind.wrap .u64 (y15.2.2.1 + (IntKind.wrap .u64 ((v16 : Nat) : Int)))), y15.2.2.2.1, y15.2.2.2.2.1, y15.2.2.2.2.2.1, y15.2.2.2.2.2.2.1, y15.2.2.2.2.2.2.2.1, y15.2.2.2.2.2.2.2.2.1, y15.2.2.2.2.2.2.2.2.2)).bind fun y31 =>
  some (y31.1, y31.2.1, y31.2.2.1, y31.2.2.2.1, y31.2.2.2.2.1, y31.2.2.2.2.2.1, y31.2.2.2.2.2.2.1, y31.2.2.2.2.2.2.2.1, y31.2.2.2.2.2.2.2.2.1, y31.2.2.2.2.2.2.2.2.2)
def f40v2.F (K : Nat) (x : f40v2.Ty2) : Option (f40v2.Ty1) := f40v2.T K x.1 x.2.1 x.2.2.1 x.2.2.2.1 x.2.2.2.2.1 x.2.2.2.2.2.1 x.2.2.2.2.2.2.1 x.2.2.2.2.2.2.2.1 x.2.2.2.2.2.2.2.2.1 x.2.2.2.2.2.2.2.2.2
def f40v2.av (_x : f40v2.Ty2) : List VV := [.ptr 0 0, .vw true 1 0 2 2]
def f40v2.bl (x : f40v2.Ty2) : List (Nat × Blk) := [(0, ([.ptr 3 0, .ints .u8 64 x.1, .int .i64 x.2.1, .int .u64 x.2.2.1], 30, .norm)), (1, ([.vw true 4 0 x.2.2.2.1 5, .vw true 6 0 x.2.2.2.2.1 7], 0, .ro)), (3, ([.ints .u32 8 x.2.2.2.2.2.1], 110, .norm)), (4, ([.ints .u8 x.2.2.2.2.2.2.1 x.2.2.2.2.2.2.2.1], 0, .ro)), (6, ([.ints .u8 x.2.2.2.2.2.2.2.2.1 x.2.2.2.2.2.2.2.2.2], 0, .ro))]
def f40v2.inA : VS → Option (f40v2.Ty2)
  | ⟨[(0, .ptr 0 0), (1, .vw true 1 0 2 2)], [(0, ([.ptr 3 0, .ints .u8 64 m0_0, .int .i64 m0_1, .int .u64 m0_2], 30, .norm)), (1, ([.vw true 4 0 m1_0 5, .vw true 6 0 m1_1 7], 0, .ro)), (3, ([.ints .u32 8 m3], 110, .norm)), (4, ([.ints .u8 m4_0 m4_1], 0, .ro)), (6, ([.ints .u8 m6_0 m6_1], 0, .ro))], 8⟩ => some (m0_0, m0_1, m0_2, m1_0, m1_1, m3, m4_0, m4_1, m6_0, m6_1)
  | _ => none
def f40v2.o0 (y : f40v2.Ty1) : VS := ⟨[(0, .tup [])], [(0, ([.ptr 8 0, .ints .u8 64 y.1, .int .i64 y.2.1, .int .u64 y.2.2.1], 30, .norm)), (1, ([.vw true 4 0 y.2.2.2.1 5, .vw true 6 0 y.2.2.2.2.1 7], 0, .ro)), (3, ([], 110, .dead)), (4, ([.ints .u8 y.2.2.2.2.2.1 y.2.2.2.2.2.2.1], 0, .ro)), (6, ([.ints .u8 y.2.2.2.2.2.2.2.1 y.2.2.2.2.2.2.2.2.1], 0, .ro)), (8, ([.ints .u32 8 y.2.2.2.2.2.2.2.2.2], 110, .norm))], 9⟩
def f40v2.des : ∀ α : Type, (f40v2.Ty1) → (VS → Option α) → Option α := (dv1 f40v2.o0)
def f40v2.out : f40v2.Ty1 → VS := f40v2.o0
def f40v2.inR : VS → Option (f40v2.Ty1)
  | ⟨[(0, .tup [])], [(0, ([.ptr 8 0, .ints .u8 64 z0_0, .int .i64 z0_1, .int .u64 z0_2], 30, .norm)), (1, ([.vw true 4 0 z1_0 5, .vw true 6 0 z1_1 7], 0, .ro)), (3, ([], 110, .dead)), (4, ([.ints .u8 z4_0 z4_1], 0, .ro)), (6, ([.ints .u8 z6_0 z6_1], 0, .ro)), (8, ([.ints .u32 8 z8], 110, .norm))], 9⟩ => some (z0_0, z0_1, z0_2, z1_0, z1_1, z4_0, z4_1, z6_0, z6_1, z8)
  | _ => none
noncomputable def f40v2.E (K : Nat) : Entry := genE 8 f40v2.inA (f40v2.F K) f40v2.des
theorem f40v2.eq (K : Nat) (x : f40v2.Ty2) : f40v2.F K x = xrun (getA tys) (tabSp (f40v2.tab K)) Try.f40.ntmps 8 (f40v2.lp K) 400 f40v2.c ⟨initL 0 (f40v2.av x), f40v2.bl x, 8⟩ (contF (getA tys) 8 Try.f40.results.toList f40v2.inR) := by kernel_rfl
theorem f40v2.ok (K : Nat) : EntryOK Try.prog 40 (f40v2.E K) :=
  gen_ok mix tys_ok (f40v2.tabOK K) Try.func40 (by kernel_rfl : Try.f40.body = some f40v2.c) (by kernel_rfl) (f40v2.loops K) (av := f40v2.av) (bl := f40v2.bl) (out := f40v2.out) (fuel := 400)
    (by intro s x h; unfold f40v2.inA at h; split at h <;> simp at h; subst h; rfl) (fun _ => Nat.le_of_ble_eq_true rfl)
    (by intro s y h; unfold f40v2.inR at h; split at h <;> simp at h <;> subst h <;> rfl) (fun _ _ _ => rfl) (f40v2.eq K)
end Go.Proofs

namespace Go.Proofs
open Go.VM
abbrev f40.Ty0 := Nat × Nat × List Int × Int × Int × Nat × Nat × List Int × List Int
abbrev f40.Ty1 := List Int × Int × Int × Nat × Nat × List Int × List Int
abbrev f40.Ty2 := List Int × Int × Int × Nat × List Int × Nat × List Int
noncomputable def f40.c : Code := bodyOf Try.f40
def f40.s2t (K : Nat) (rec : f40.Ty0 → Option (f40.Ty1)) (t5_0 : Nat) (t5_1 : Nat) (b0_0 : List Int) (b0_1 : Int) (b0_2 : Int) (b1 : Nat) (b4_0 : Nat) (b4_1 : List Int) (b7 : List Int) : Option (f40.Ty1) :=
  bif (decide (((t5_1 : Nat) : Int) > 0)) then
    bif decide (0 ≤ b0_1 ∧ b0_1 ≤ 64) then
      let v6 := bif Nat.beq 64 (Int.toNat b0_1) then 0 else (Int.toNat b0_1)
      let v7 := 64 - (Int.toNat b0_1)
      bif (((Nat.ble (t5_0 + t5_1) b4_0 && true) && (Nat.ble (v6 + v7) 64)) && (Nat.beq t5_1 t5_1)) then
        let v9 := ((Nat.min t5_1 v7 : Nat) : Int)
        let v10 := spl b0_0 v6 (Nat.min t5_1 v7) (subI b4_1 t5_0 t5_1)
        bif decide (0 ≤ v9 ∧ v9 ≤ ((t5_1 : Nat) : Int)) then
          let v11 := t5_0 + (Int.toNat v9)
          let v12 := t5_1 - (Int.toNat v9)
          let v13 := IntKind.wrap .i64 (b0_1 + v9)
          bif (v13 == 64) then
            (f62.F K (b7, v10, v13, b0_2, b7)).bind fun y14 =>
            rec (v11, v12, y14.2.1, 0, y14.2.2.2.1, b1, b4_0, b4_1, y14.1)
          else
            rec (v11, v12, v10, v13, b0_2, b1, b4_0, b4_1, b7)
        else
          none
      else
        none
    else
      none
  else
    some (b0_0, b0_1, b0_2, b1, b4_0, b4_1, b7)
def f40.s2 (K : Nat) (rec : f40.Ty0 → Option (f40.Ty1)) (x : f40.Ty0) : Option (f40.Ty1) := f40.s2t K rec x.1 x.2.1 x.2.2.1 x.2.2.2.1 x.2.2.2.2.1 x.2.2.2.2.2.1 x.2.2.2.2.2.2.1 x.2.2.2.2.2.2.2.1 x.2.2.2.2.2.2.2.2
noncomputable def f40.s2.b : Code := (findLoop 2 f40.c).getD .skip
def f40.s2.h : Hint := { lv := [0, 5, 8, 9, 10], co := [(5, 0, [])], mv := [3] }
def f40.s2.ho : Hint := { lv := [0, 8, 9, 10] }
def f40.s2.shp (x : f40.Ty0) : VS := ⟨[(0, .ptr 0 0), (5, .vw true 4 x.1 x.2.1 6), (8, .vw true 1 0 1 2), (9, .int .i64 1), (10, .int .i64 0)], [(0, ([.ptr 7 0, .ints .u8 64 x.2.2.1, .int .i64 x.2.2.2.1, .int .u64 x.2.2.2.2.1], 30, .norm)), (1, ([.vw true 4 0 x.2.2.2.2.2.1 5], 0, .ro)), (3, ([], 110, .dead)), (4, ([.ints .u8 x.2.2.2.2.2.2.1 x.2.2.2.2.2.2.2.1], 0, .ro)), (7, ([.ints .u32 8 x.2.2.2.2.2.2.2.2], 110, .norm))], 8⟩
def f40.s2.inX : VS → Option (f40.Ty0)
  | ⟨[(0, .ptr 0 0), (5, .vw true 4 t5_0 t5_1 6), (8, .vw true 1 0 1 2), (9, .int .i64 1), (10, .int .i64 0)], [(0, ([.ptr 7 0, .ints .u8 64 b0_0, .int .i64 b0_1, .int .u64 b0_2], 30, .norm)), (1, ([.vw true 4 0 b1 5], 0, .ro)), (3, ([], 110, .dead)), (4, ([.ints .u8 b4_0 b4_1], 0, .ro)), (7, ([.ints .u32 8 b7], 110, .norm))], 8⟩ => some (t5_0, t5_1, b0_0, b0_1, b0_2, b1, b4_0, b4_1, b7)
  | _ => none
def f40.s2.o0 (y : f40.Ty1) : VS := ⟨[(0, .ptr 0 0), (8, .vw true 1 0 1 2), (9, .int .i64 1), (10, .int .i64 0)], [(0, ([.ptr 6 0, .ints .u8 64 y.1, .int .i64 y.2.1, .int .u64 y.2.2.1], 30, .norm)), (1, ([.vw true 4 0 y.2.2.2.1 5], 0, .ro)), (3, ([], 110, .dead)), (4, ([.ints .u8 y.2.2.2.2.1 y.2.2.2.2.2.1], 0, .ro)), (6, ([.ints .u32 8 y.2.2.2.2.2.2], 110, .norm))], 7⟩
def f40.s2.des : ∀ α : Type, (f40.Ty1) → (Ex → VS → Option α) → Option α := (des1 (.exit 2) f40.s2.o0)
def f40.s2.out : f40.Ty1 → Ex × VS := (fun y => (.exit 2, f40.s2.o0 y))
theorem f40.s2.desOK : ∀ α y (k : Ex → VS → Option α), f40.s2.des α y k = k (f40.s2.out y).1 (f40.s2.out y).2 := (fun _ _ _ => rfl)
def f40.s2.inY : Ex → VS → Option (f40.Ty1)
  | .exit 2, ⟨[(0, .ptr 0 0), (8, .vw true 1 0 1 2), (9, .int .i64 1), (10, .int .i64 0)], [(0, ([.ptr 6 0, .ints .u8 64 b0_0, .int .i64 b0_1, .int .u64 b0_2], 30, .norm)), (1, ([.vw true 4 0 b1 5], 0, .ro)), (3, ([], 110, .dead)), (4, ([.ints .u8 b4_0 b4_1], 0, .ro)), (6, ([.ints .u32 8 b6], 110, .norm))], 7⟩ => some (b0_0, b0_1, b0_2, b1, b4_0, b4_1, b6)
  | _, _ => none
def f40.lp (K : Nat) : Nat → Option (Hint × Summ) := tabLp [(2, f40.s2.h, summOf (iter (f40.s2 K) K) f40.s2.inX f40.s2.des)]
noncomputable def f40.tab (K : Nat) : List (Nat × Entry) := [(62, (f62.E K))]
theorem f40.tabOK (K : Nat) : SpecOK Try.prog (tabSp (f40.tab K)) := tab_ok ((tab_cons (f62.ok K) tab_nil))
theorem f40.s2.eq (K : Nat) (rec : f40.Ty0 → Option (f40.Ty1)) (x : f40.Ty0) : f40.s2 K rec x = roundL (getA tys) (tabSp (f40.tab K)) 76 6 (f40.lp K) 400 f40.s2.b f40.s2.h f40.s2.ho f40.s2.shp f40.s2.inX f40.s2.inY rec x := by kernel_rfl
theorem f40.s2.lok (K : Nat) : LoopsOK Try.prog 76 6 (f40.lp K) f40.s2.b := loops_ok (by
  have h : loopsIn (f40.lp K) f40.s2.b = [] := by kernel_rfl
  rw [h]; simp)
theorem f40.s2.ok (K : Nat) : SummOK Try.prog 76 6 (summOf (iter (f40.s2 K) K) f40.s2.inX f40.s2.des) f40.s2.b :=
  loop_ok mix tys_ok (f40.tabOK K) (h := f40.s2.h) (ho := f40.s2.ho) (shp := f40.s2.shp) (inX := f40.s2.inX) (des := f40.s2.des) (out := f40.s2.out) (inY := f40.s2.inY) (fuel := 400)
    (by intro st x h; unfold f40.s2.inX at h; split at h <;> simp at h; subst h; rfl)
    (by intro e st y h; unfold f40.s2.inY at h; split at h <;> simp at h <;> subst h <;> rfl)
    f40.s2.desOK (f40.s2.lok K) (f40.s2 K) (f40.s2.eq K) K
theorem f40.loops (K : Nat) : LoopsOK Try.prog 76 6 (f40.lp K) f40.c := loops_ok (by
  have h : loopsIn (f40.lp K) f40.c = [(2, f40.s2.b)] := by kernel_rfl
  rw [h]
  intro p hp
  simp only [List.mem_cons, List.not_mem_nil, or_false] at hp
  rcases hp with rfl
  · exact ⟨_, rfl, (f40.s2.ok K)⟩)
def f40.T (K : Nat) (m0_0 : List Int) (m0_1 : Int) (m0_2 : Int) (m1 : Nat) (m3 : List Int) (m4_0 : Nat) (m4_1 : List Int) : Option (f40.Ty1) :=
  (iter (f40.s2 K) K (0, m1, m0_0, m0_1, (IntKind.wrap .u64 (m0_2 + (IntKind.wrap .u64 ((m1 : Nat) : Int)))), m1, m4_0, m4_1, m3)).bind fun y15 =>
  some (y15.1, y15.2.1, y15.2.2.1, y15.2.2.2.1, y15.2.2.2.2.1, y15.2.2.2.2.2.1, y15.2.2.2.2.2.2)
def f40.F (K : Nat) (x : f40.Ty2) : Option (f40.Ty1) := f40.T K x.1 x.2.1 x.2.2.1 x.2.2.2.1 x.2.2.2.2.1 x.2.2.2.2.2.1 x.2.2.2.2.2.2
def f40.av (_x : f40.Ty2) : List VV := [.ptr 0 0, .vw true 1 0 1 2]
def f40.bl (x : f40.Ty2) : List (Nat × Blk) := [(0, ([.ptr 3 0, .ints .u8 64 x.1, .int .i64 x.2.1, .int .u64 x.2.2.1], 30, .norm)), (1, ([.vw true 4 0 x.2.2.2.1 5], 0, .ro)), (3, ([.ints .u32 8 x.2.2.2.2.1], 110, .norm)), (4, ([.ints .u8 x.2.2.2.2.2.1 x.2.2.2.2.2.2], 0, .ro))]
def f40.inA : VS → Option (f40.Ty2)
  | ⟨[(0, .ptr 0 0), (1, .vw true 1 0 1 2)], [(0, ([.ptr 3 0, .ints .u8 64 m0_0, .int .i64 m0_1, .int .u64 m0_2], 30, .norm)), (1, ([.vw true 4 0 m1 5], 0, .ro)), (3, ([.ints .u32 8 m3], 110, .norm)), (4, ([.ints .u8 m4_0 m4_1], 0, .ro))], 6⟩ => some (m0_0, m0_1, m0_2, m1, m3, m4_0, m4_1)
  | _ => none
def f40.o0 (y : f40.Ty1) : VS := ⟨[(0, .tup [])], [(0, ([.ptr 6 0, .ints .u8 64 y.1, .int .i64 y.2.1, .int .u64 y.2.2.1], 30, .norm)), (1, ([.vw true 4 0 y.2.2.2.1 5], 0, .ro)), (3, ([], 110, .dead)), (4, ([.ints .u8 y.2.2.2.2.1 y.2.2.2.2.2.1], 0, .ro)), (6, ([.ints .u32 8 y.2.2.2.2.2.2], 110, .norm))], 7⟩
def f40.des : ∀ α : Type, (f40.Ty1) → (VS → Option α) → Option α := (dv1 f40.o0)
def f40.out : f40.Ty1 → VS := f40.o0
def f40.inR : VS → Option (f40.Ty1)
  | ⟨[(0, .tup [])], [(0, ([.ptr 6 0, .ints .u8 64 z0_0, .int .i64 z0_1, .int .u64 z0_2], 30, .norm)), (1, ([.vw true 4 0 z1 5], 0, .ro)), (3, ([], 110, .dead)), (4, ([.ints .u8 z4_0 z4_1], 0, .ro)), (6, ([.ints .u32 8 z6], 110, .norm))], 7⟩ => some (z0_0, z0_1, z0_2, z1, z4_0, z4_1, z6)
  | _ => none
noncomputable def f40.E (K : Nat) : Entry := genE 6 f40.inA (f40.F K) f40.des
theorem f40.eq (K : Nat) (x : f40.Ty2) : f40.F K x = xrun (getA tys) (tabSp (f40.tab K)) Try.f40.ntmps 6 (f40.lp K) 400 f40.c ⟨initL 0 (f40.av x), f40.bl x, 6⟩ (contF (getA tys) 6 Try.f40.results.toList f40.inR) := by kernel_rfl
theorem f40.ok (K : Nat) : EntryOK Try.prog 40 (f40.E K) :=
  gen_ok mix tys_ok (f40.tabOK K) Try.func40 (by kernel_rfl : Try.f40.body = some f40.c) (by kernel_rfl) (f40.loops K) (av := f40.av) (bl := f40.bl) (out := f40.out) (fuel := 400)
    (by intro s x h; unfold f40.inA at h; split at h <;> simp at h; subst h; rfl) (fun _ => Nat.le_of_ble_eq_true rfl)
    (by intro s y h; unfold f40.inR at h; split at h <;> simp at h <;> subst h <;> rfl) (fun _ _ _ => rfl) (f40.eq K)
end Go.Proofs

namespace Go.Proofs
open Go.VM
abbrev f40v1.Ty0 := Nat × Nat × List Int × Int × Int × Nat × Nat × Nat × Nat × List Int × Nat × List Int × Nat × List Int × List Int
abbrev f40v1.Ty1 := List Int × Int × Int × Nat × Nat × Nat × Nat × List Int × Nat × List Int × Nat × List Int × List Int
abbrev f40v1.Ty2 := List Int × Int × Int × Nat × Nat × Nat × List Int × Nat × List Int × Nat × List Int × Nat × List Int
noncomputable def f40v1.c : Code := bodyOf Try.f40
def f40v1.s2t (K : Nat) (rec : f40v1.Ty0 → Option (f40v1.Ty1)) (t5_0 : Nat) (t5_1 : Nat) (b0_0 : List Int) (b0_1 : Int) (b0_2 : Int) (b1_0 : Nat) (b1_1 : Nat) (b1_2 : Nat) (b4_0 : Nat) (b4_1 : List Int) (b6_0 : Nat) (b6_1 : List Int) (b8_0 : Nat) (b8_1 : List Int) (b11 : List Int) : Option (f40v1.Ty1) :=
  bif (decide (((t5_1 : Nat) : Int) > 0)) then
    bif decide (0 ≤ b0_1 ∧ b0_1 ≤ 64) then
      let v6 := bif Nat.beq 64 (Int.toNat b0_1) then 0 else (Int.toNat b0_1)
      let v7 := 64 - (Int.toNat b0_1)
      bif (((Nat.ble (t5_0 + t5_1) b4_0 && true) && (Nat.ble (v6 + v7) 64)) && (Nat.beq t5_1 t5_1)) then
        let v9 := ((Nat.min t5_1 v7 : Nat) : Int)
        let v10 := spl b0_0 v6 (Nat.min t5_1 v7) (subI b4_1 t5_0 t5_1)
        bif decide (0 ≤ v9 ∧ v9 ≤ ((t5_1 : Nat) : Int)) then
          let v11 := t5_0 + (Int.toNat v9)
          let v12 := t5_1 - (Int.toNat v9)
          let v13 := IntKind.wrap .i64 (b0_1 + v9)
          bif (v13 == 64) then
            (f62.F K (b11, v10, v13, b0_2, b11)).bind fun y14 =>
            rec (v11, v12, y14.2.1, 0, y14.2.2.2.1, b1_0, b1_1, b1_2, b4_0, b4_1, b6_0, b6_1, b8_0, b8_1, y14.1)
          else
            rec (v11, v12, v10, v13, b0_2, b1_0, b1_1, b1_2, b4_0, b4_1, b6_0, b6_1, b8_0, b8_1, b11)
        else
          none
      else
        none
    else
      none
  else
    some (b0_0, b0_1, b0_2, b1_0, b1_1, b1_2, b4_0, b4_1, b6_0, b6_1, b8_0, b8_1, b11)
def f40v1.s2 (K : Nat) (rec : f40v1.Ty0 → Option (f40v1.Ty1)) (x : f40v1.Ty0) : Option (f40v1.Ty1) := f40v1.s2t K rec x.1 x.2.1 x.2.2.1 x.2.2.2.1 x.2.2.2.2.1 x.2.2.2.2.2.1 x.2.2.2.2.2.2.1 x.2.2.2.2.2.2.2.1 x.2.2.2.2.2.2.2.2.1 x.2.2.2.2.2.2.2.2.2.1 x.2.2.2.2.2.2.2.2.2.2.1 x.2.2.2.2.2.2.2.2.2.2.2.1 x.2.2.2.2.2.2.2.2.2.2.2.2.1 x.2.2.2.2.2.2.2.2.2.2.2.2.2.1 x.2.2.2.2.2.2.2.2.2.2.2.2.2.2
noncomputable def f40v1.s2.b : Code := (findLoop 2 f40v1.c).getD .skip
def f40v1.s2.h : Hint := { lv := [0, 5, 8, 9, 10], co := [(5, 0, [])], mv := [3] }
def f40v1.s2.ho : Hint := { lv := [0, 8, 9, 10] }
def f40v1.s2.shp (x : f40v1.Ty0) : VS := ⟨[(0, .ptr 0 0), (5, .vw true 4 x.1 x.2.1 10), (8, .vw true 1 0 3 2), (9, .int .i64 3), (10, .int .i64 0)], [(0, ([.ptr 11 0, .ints .u8 64 x.2.2.1, .int .i64 x.2.2.2.1, .int .u64 x.2.2.2.2.1], 30, .norm)), (1, ([.vw true 4 0 x.2.2.2.2.2.1 5, .vw true 6 0 x.2.2.2.2.2.2.1 7, .vw true 8 0 x.2.2.2.2.2.2.2.1 9], 0, .ro)), (3, ([], 110, .dead)), (4, ([.ints .u8 x.2.2.2.2.2.2.2.2.1 x.2.2.2.2.2.2.2.2.2.1], 0, .ro)), (6, ([.ints .u8 x.2.2.2.2.2.2.2.2.2.2.1 x.2.2.2.2.2.2.2.2.2.2.2.1], 0, .ro)), (8, ([.ints .u8 x.2.2.2.2.2.2.2.2.2.2.2.2.1 x.2.2.2.2.2.2.2.2.2.2.2.2.2.1], 0, .ro)), (11, ([.ints .u32 8 x.2.2.2.2.2.2.2.2.2.2.2.2.2.2], 110, .norm))], 12⟩
def f40v1.s2.inX : VS → Option (f40v1.Ty0)
  | ⟨[(0, .ptr 0 0), (5, .vw true 4 t5_0 t5_1 10), (8, .vw true 1 0 3 2), (9, .int .i64 3), (10, .int .i64 0)], [(0, ([.ptr 11 0, .ints .u8 64 b0_0, .int .i64 b0_1, .int .u64 b0_2], 30, .norm)), (1, ([.vw true 4 0 b1_0 5, .vw true 6 0 b1_1 7, .vw true 8 0 b1_2 9], 0, .ro)), (3, ([], 110, .dead)), (4, ([.ints .u8 b4_0 b4_1], 0, .ro)), (6, ([.ints .u8 b6_0 b6_1], 0, .ro)), (8, ([.ints .u8 b8_0 b8_1], 0, .ro)), (11, ([.ints .u32 8 b11], 110, .norm))], 12⟩ => some (t5_0, t5_1, b0_0, b0_1, b0_2, b1_0, b1_1, b1_2, b4_0, b4_1, b6_0, b6_1, b8_0, b8_1, b11)
  | _ => none
def f40v1.s2.o0 (y : f40v1.Ty1) : VS := ⟨[(0, .ptr 0 0), (8, .vw true 1 0 3 2), (9, .int .i64 3), (10, .int .i64 0)], [(0, ([.ptr 10 0, .ints .u8 64 y.1, .int .i64 y.2.1, .int .u64 y.2.2.1], 30, .norm)), (1, ([.vw true 4 0 y.2.2.2.1 5, .vw true 6 0 y.2.2.2.2.1 7, .vw true 8 0 y.2.2.2.2.2.1 9], 0, .ro)), (3, ([], 110, .dead)), (4, ([.ints .u8 y.2.2.2.2.2.2.1 y.2.2.2.2.2.2.2.1], 0, .ro)), (6, ([.ints .u8 y.2.2.2.2.2.2.2.2.1 y.2.2.2.2.2.2.2.2.2.1], 0, .ro)), (8, ([.ints .u8 y.2.2.2.2.2.2.2.2.2.2.1 y.2.2.2.2.2.2.2.2.2.2.2.1], 0, .ro)), (10, ([.ints .u32 8 y.2.2.2.2.2.2.2.2.2.2.2.2], 110, .norm))], 11⟩
def f40v1.s2.des : ∀ α : Type, (f40v1.Ty1) → (Ex → VS → Option α) → Option α := (des1 (.exit 2) f40v1.s2.o0)
def f40v1.s2.out : f40v1.Ty1 → Ex × VS := (fun y => (.exit 2, f40v1.s2.o0 y))
theorem f40v1.s2.desOK : ∀ α y (k : Ex → VS → Option α), f40v1.s2.des α y k = k (f40v1.s2.out y).1 (f40v1.s2.out y).2 := (fun _ _ _ => rfl)
def f40v1.s2.inY : Ex → VS → Option (f40v1.Ty1)
  | .exit 2, ⟨[(0, .ptr 0 0), (8, .vw true 1 0 3 2), (9, .int .i64 3), (10, .int .i64 0)], [(0, ([.ptr 10 0, .ints .u8 64 b0_0, .int .i64 b0_1, .int .u64 b0_2], 30, .norm)), (1, ([.vw true 4 0 b1_0 5, .vw true 6 0 b1_1 7, .vw true 8 0 b1_2 9], 0, .ro)), (3, ([], 110, .dead)), (4, ([.ints .u8 b4_0 b4_1], 0, .ro)), (6, ([.ints .u8 b6_0 b6_1], 0, .ro)), (8, ([.ints .u8 b8_0 b8_1], 0, .ro)), (10, ([.ints .u32 8 b10], 110, .norm))], 11⟩ => some (b0_0, b0_1, b0_2, b1_0, b1_1, b1_2, b4_0, b4_1, b6_0, b6_1, b8_0, b8_1, b10)
  | _, _ => none
def f40v1.s2bt (K : Nat) (rec : f40v1.Ty0 → Option (f40v1.Ty1)) (t5_0 : Nat) (t5_1 : Nat) (b0_0 : List Int) (b0_1 : Int) (b0_2 : Int) (b1_0 : Nat) (b1_1 : Nat) (b1_2 : Nat) (b4_0 : Nat) (b4_1 : List Int) (b6_0 : Nat) (b6_1 : List Int) (b8_0 : Nat) (b8_1 : List Int) (b11 : List Int) : Option (f40v1.Ty1) :=
  bif (decide (((t5_1 : Nat) : Int) > 0)) then
    bif decide (0 ≤ b0_1 ∧ b0_1 ≤ 64) then
      let v22 := bif Nat.beq 64 (Int.toNat b0_1) then 0 else (Int.toNat b0_1)
      let v23 := 64 - (Int.toNat b0_1)
      bif (((Nat.ble (t5_0 + t5_1) b6_0 && true) && (Nat.ble (v22 + v23) 64)) && (Nat.beq t5_1 t5_1)) then
        let v25 := ((Nat.min t5_1 v23 : Nat) : Int)
        let v26 := spl b0_0 v22 (Nat.min t5_1 v23) (subI b6_1 t5_0 t5_1)
        bif decide (0 ≤ v25 ∧ v25 ≤ ((t5_1 : Nat) : Int)) then
          let v27 := t5_0 + (Int.toNat v25)
          let v28 := t5_1 - (Int.toNat v25)
          let v29 := IntKind.wrap .i64 (b0_1 + v25)
          bif (v29 == 64) then
            (f62.F K (b11, v26, v29, b0_2, b11)).bind fun y30 =>
            rec (v27, v28, y30.2.1, 0, y30.2.2.2.1, b1_0, b1_1, b1_2, b4_0, b4_1, b6_0, b6_1, b8_0, b8_1, y30.1)
          else
            rec (v27, v28, v26, v29, b0_2, b1_0, b1_1, b1_2, b4_0, b4_1, b6_0, b6_1, b8_0, b8_1, b11)
        else
          none
      else
        none
    else
      none
  else
    some (b0_0, b0_1, b0_2, b1_0, b1_1, b1_2, b4_0, b4_1, b6_0, b6_1, b8_0, b8_1, b11)
def f40v1.s2b (K : Nat) (rec : f40v1.Ty0 → Option (f40v1.Ty1)) (x : f40v1.Ty0) : Option (f40v1.Ty1) := f40v1.s2bt K rec x.1 x.2.1 x.2.2.1 x.2.2.2.1 x.2.2.2.2.1 x.2.2.2.2.2.1 x.2.2.2.2.2.2.1 x.2.2.2.2.2.2.2.1 x.2.2.2.2.2.2.2.2.1 x.2.2.2.2.2.2.2.2.2.1 x.2.2.2.2.2.2.2.2.2.2.1 x.2.2.2.2.2.2.2.2.2.2.2.1 x.2.2.2.2.2.2.2.2.2.2.2.2.1 x.2.2.2.2.2.2.2.2.2.2.2.2.2.1 x.2.2.2.2.2.2.2.2.2.2.2.2.2.2
noncomputable def f40v1.s2b.b : Code := (findLoop 2 f40v1.c).getD .skip
def f40v1.s2b.h : Hint := { lv := [0, 5, 8, 9, 10], co := [(5, 0, [])], mv := [3] }
def f40v1.s2b.ho : Hint := { lv := [0, 8, 9, 10] }
def f40v1.s2b.shp (x : f40v1.Ty0) : VS := ⟨[(0, .ptr 0 0), (5, .vw true 6 x.1 x.2.1 10), (8, .vw true 1 0 3 2), (9, .int .i64 3), (10, .int .i64 1)], [(0, ([.ptr 11 0, .ints .u8 64 x.2.2.1, .int .i64 x.2.2.2.1, .int .u64 x.2.2.2.2.1], 30, .norm)), (1, ([.vw true 4 0 x.2.2.2.2.2.1 5, .vw true 6 0 x.2.2.2.2.2.2.1 7, .vw true 8 0 x.2.2.2.2.2.2.2.1 9], 0, .ro)), (3, ([], 110, .dead)), (4, ([.ints .u8 x.2.2.2.2.2.2.2.2.1 x.2.2.2.2.2.2.2.2.2.1], 0, .ro)), (6, ([.ints .u8 x.2.2.2.2.2.2.2.2.2.2.1 x.2.2.2.2.2.2.2.2.2.2.2.1], 0, .ro)), (8, ([.ints .u8 x.2.2.2.2.2.2.2.2.2.2.2.2.1 x.2.2.2.2.2.2.2.2.2.2.2.2.2.1], 0, .ro)), (11, ([.ints .u32 8 x.2.2.2.2.2.2.2.2.2.2.2.2.2.2], 110, .norm))], 12⟩
def f40v1.s2b.inX : VS → Option (f40v1.Ty0)
  | ⟨[(0, .ptr 0 0), (5, .vw true 6 t5_0 t5_1 10), (8, .vw true 1 0 3 2), (9, .int .i64 3), (10, .int .i64 1)], [(0, ([.ptr 11 0, .ints .u8 64 b0_0, .int .i64 b0_1, .int .u64 b0_2], 30, .norm)), (1, ([.vw true 4 0 b1_0 5, .vw true 6 0 b1_1 7, .vw true 8 0 b1_2 9], 0, .ro)), (3, ([], 110, .dead)), (4, ([.ints .u8 b4_0 b4_1], 0, .ro)), (6, ([.ints .u8 b6_0 b6_1], 0, .ro)), (8, ([.ints .u8 b8_0 b8_1], 0, .ro)), (11, ([.ints .u32 8 b11], 110, .norm))], 12⟩ => some (t5_0, t5_1, b0_0, b0_1, b0_2, b1_0, b1_1, b1_2, b4_0, b4_1, b6_0, b6_1, b8_0, b8_1, b11)
  | _ => none
def f40v1.s2b.o0 (y : f40v1.Ty1) : VS := ⟨[(0, .ptr 0 0), (8, .vw true 1 0 3 2), (9, .int .i64 3), (10, .int .i64 1)], [(0, ([.ptr 10 0, .ints .u8 64 y.1, .int .i64 y.2.1, .int .u64 y.2.2.1], 30, .norm)), (1, ([.vw true 4 0 y.2.2.2.1 5, .vw true 6 0 y.2.2.2.2.1 7, .vw true 8 0 y.2.2.2.2.2.1 9], 0, .ro)), (3, ([], 110, .dead)), (4, ([.ints .u8 y.2.2.2.2.2.2.1 y.2.2.2.2.2.2.2.1], 0, .ro)), (6, ([.ints .u8 y.2.2.2.2.2.2.2.2.1 y.2.2.2.2.2.2.2.2.2.1], 0, .ro)), (8, ([.ints .u8 y.2.2.2.2.2.2.2.2.2.2.1 y.2.2.2.2.2.2.2.2.2.2.2.1], 0, .ro)), (10, ([.ints .u32 8 y.2.2.2.2.2.2.2.2.2.2.2.2], 110, .norm))], 11⟩
def f40v1.s2b.des : ∀ α : Type, (f40v1.Ty1) → (Ex → VS → Option α) → Option α := (des1 (.exit 2) f40v1.s2b.o0)
def f40v1.s2b.out : f40v1.Ty1 → Ex × VS := (fun y => (.exit 2, f40v1.s2b.o0 y))
theorem f40v1.s2b.desOK : ∀ α y (k : Ex → VS → Option α), f40v1.s2b.des α y k = k (f40v1.s2b.out y).1 (f40v1.s2b.out y).2 := (fun _ _ _ => rfl)
def f40v1.s2b.inY : Ex → VS → Option (f40v1.Ty1)
  | .exit 2, ⟨[(0, .ptr 0 0), (8, .vw true 1 0 3 2), (9, .int .i64 3), (10, .int .i64 1)], [(0, ([.ptr 10 0, .ints .u8 64 b0_0, .int .i64 b0_1, .int .u64 b0_2], 30, .norm)), (1, ([.vw true 4 0 b1_0 5, .vw true 6 0 b1_1 7, .vw true 8 0 b1_2 9], 0, .ro)), (3, ([], 110, .dead)), (4, ([.ints .u8 b4_0 b4_1], 0, .ro)), (6, ([.ints .u8 b6_0 b6_1], 0, .ro)), (8, ([.ints .u8 b8_0 b8_1], 0, .ro)), (10, ([.ints .u32 8 b10], 110, .norm))], 11⟩ => some (b0_0, b0_1, b0_2, b1_0, b1_1, b1_2, b4_0, b4_1, b6_0, b6_1, b8_0, b8_1, b10)
  | _, _ => none
def f40v1.s2ct (K : Nat) (rec : f40v1.Ty0 → Option (f40v1.Ty1)) (t5_0 : Nat) (t5_1 : Nat) (b0_0 : List Int) (b0_1 : Int) (b0_2 : Int) (b1_0 : Nat) (b1_1 : Nat) (b1_2 : Nat) (b4_0 : Nat) (b4_1 : List Int) (b6_0 : Nat) (b6_1 : List Int) (b8_0 : Nat) (b8_1 : List Int) (b11 : List Int) : Option (f40v1.Ty1) :=
  bif (decide (((t5_1 : Nat) : Int) > 0)) then
    bif decide (0 ≤ b0_1 ∧ b0_1 ≤ 64) then
      let v38 := bif Nat.beq 64 (Int.toNat b0_1) then 0 else (Int.toNat b0_1)
      let v39 := 64 - (Int.toNat b0_1)
      bif (((Nat.ble (t5_0 + t5_1) b8_0 && true) && (Nat.ble (v38 + v39) 64)) && (Nat.beq t5_1 t5_1)) then
        let v41 := ((Nat.min t5_1 v39 : Nat) : Int)
        let v42 := spl b0_0 v38 (Nat.min t5_1 v39) (subI b8_1 t5_0 t5_1)
        bif decide (0 ≤ v41 ∧ v41 ≤ ((t5_1 : Nat) : Int)) then
          let v43 := t5_0 + (Int.toNat v41)
          let v44 := t5_1 - (Int.toNat v41)
          let v45 := IntKind.wrap .i64 (b0_1 + v41)
          bif (v45 == 64) then
            (f62.F K (b11, v42, v45, b0_2, b11)).bind fun y46 =>
            rec (v43, v44, y46.2.1, 0, y46.2.2.2.1, b1_0, b1_1, b1_2, b4_0, b4_1, b6_0, b6_1, b8_0, b8_1, y46.1)
          else
            rec (v43, v44, v42, v45, b0_2, b1_0, b1_1, b1_2, b4_0, b4_1, b6_0, b6_1, b8_0, b8_1, b11)
        else
          none
      else
        none
    else
      none
  else
    some (b0_0, b0_1, b0_2, b1_0, b1_1, b1_2, b4_0, b4_1, b6_0, b6_1, b8_0, b8_1, b11)
def f40v1.s2c (K : Nat) (rec : f40v1.Ty0 → Option (f40v1.Ty1)) (x : f40v1.Ty0) : Option (f40v1.Ty1) := f40v1.s2ct K rec x.1 x.2.1 x.2.2.1 x.2.2.2.1 x.2.2.2.2.1 x.2.2.2.2.2.1 x.2.2.2.2.2.2.1 x.2.2.2.2.2.2.2.1 x.2.2.2.2.2.2.2.2.1 x.2.2.2.2.2.2.2.2.2.1 x.2.2.2.2.2.2.2.2.2.2.1 x.2.2.2.2.2.2.2.2.2.2.2.1 x.2.2.2.2.2.2.2.2.2.2.2.2.1 x.2.2.2.2.2.2.2.2.2.2.2.2.2.1 x.2.2.2.2.2.2.2.2.2.2.2.2.2.2
noncomputable def f40v1.s2c.b : Code := (findLoop 2 f40v1.c).getD .skip
def f40v1.s2c.h : Hint := { lv := [0, 5, 8, 9, 10], co := [(5, 0, [])], mv := [3] }
def f40v1.s2c.ho : Hint := { lv := [0, 8, 9, 10] }
def f40v1.s2c.shp (x : f40v1.Ty0) : VS := ⟨[(0, .ptr 0 0), (5, .vw true 8 x.1 x.2.1 10), (8, .vw true 1 0 3 2), (9, .int .i64 3), (10, .int .i64 2)], [(0, ([.ptr 11 0, .ints .u8 64 x.2.2.1, .int .i64 x.2.2.2.1, .int .u64 x.2.2.2.2.1], 30, .norm)), (1, ([.vw true 4 0 x.2.2.2.2.2.1 5, .vw true 6 0 x.2.2.2.2.2.2.1 7, .vw true 8 0 x.2.2.2.2.2.2.2.1 9], 0, .ro)), (3, ([], 110, .dead)), (4, ([.ints .u8 x.2.2.2.2.2.2.2.2.1 x.2.2.2.2.2.2.2.2.2.1], 0, .ro)), (6, ([.ints .u8 x.2.2.2.2.2.2.2.2.2.2.1 x.2.2.2.2.2.2.2.2.2.2.2.1], 0, .ro)), (8, ([.ints .u8 x.2.2.2.2.2.2.2.2.2.2.2.2.1 x.2.2.2.2.2.2.2.2.2.2.2.2.2.1], 0, .ro)), (11, ([.ints .u32 8 x.2.2.2.2.2.2.2.2.2.2.2.2.2.2], 110, .norm))], 12⟩
def f40v1.s2c.inX : VS → Option (f40v1.Ty0)
  | ⟨[(0, .ptr 0 0), (5, .vw true 8 t5_0 t5_1 10), (8, .vw true 1 0 3 2), (9, .int .i64 3), (10, .int .i64 2)], [(0, ([.ptr 11 0, .ints .u8 64 b0_0, .int .i64 b0_1, .int .u64 b0_2], 30, .norm)), (1, ([.vw true 4 0 b1_0 5, .vw true 6 0 b1_1 7, .vw true 8 0 b1_2 9], 0, .ro)), (3, ([], 110, .dead)), (4, ([.ints .u8 b4_0 b4_1], 0, .ro)), (6, ([.ints .u8 b6_0 b6_1], 0, .ro)), (8, ([.ints .u8 b8_0 b8_1], 0, .ro)), (11, ([.ints .u32 8 b11], 110, .norm))], 12⟩ => some (t5_0, t5_1, b0_0, b0_1, b0_2, b1_0, b1_1, b1_2, b4_0, b4_1, b6_0, b6_1, b8_0, b8_1, b11)
  | _ => none
def f40v1.s2c.o0 (y : f40v1.Ty1) : VS := ⟨[(0, .ptr 0 0), (8, .vw true 1 0 3 2), (9, .int .i64 3), (10, .int .i64 2)], [(0, ([.ptr 10 0, .ints .u8 64 y.1, .int .i64 y.2.1, .int .u64 y.2.2.1], 30, .norm)), (1, ([.vw true 4 0 y.2.2.2.1 5, .vw true 6 0 y.2.2.2.2.1 7, .vw true 8 0 y.2.2.2.2.2.1 9], 0, .ro)), (3, ([], 110, .dead)), (4, ([.ints .u8 y.2.2.2.2.2.2.1 y.2.2.2.2.2.2.2.1], 0, .ro)), (6, ([.ints .u8 y.2.2.2.2.2.2.2.2.1 y.2.2.2.2.2.2.2.2.2.1], 0, .ro)), (8, ([.ints .u8 y.2.2.2.2.2.2.2.2.2.2.1 y.2.2.2.2.2.2.2.2.2.2.2.1], 0, .ro)), (10, ([.ints .u32 8 y.2.2.2.2.2.2.2.2.2.2.2.2], 110, .norm))], 11⟩
def f40v1.s2c.des : ∀ α : Type, (f40v1.Ty1) → (Ex → VS → Option α) → Option α := (des1 (.exit 2) f40v1.s2c.o0)
def f40v1.s2c.out : f40v1.Ty1 → Ex × VS := (fun y => (.exit 2, f40v1.s2c.o0 y))
theorem f40v1.s2c.desOK : ∀ α y (k : Ex → VS → Option α), f40v1.s2c.des α y k = k (f40v1.s2c.out y).1 (f40v1.s2c.out y).2 := (fun _ _ _ => rfl)
def f40v1.s2c.inY : Ex → VS → Option (f40v1.Ty1)
  | .exit 2, ⟨[(0, .ptr 0 0), (8, .vw true 1 0 3 2), (9, .int .i64 3), (10, .int .i64 2)], [(0, ([.ptr 10 0, .ints .u8 64 b0_0, .int .i64 b0_1, .int .u64 b0_2], 30, .norm)), (1, ([.vw true 4 0 b1_0 5, .vw true 6 0 b1_1 7, .vw true 8 0 b1_2 9], 0, .ro)), (3, ([], 110, .dead)), (4, ([.ints .u8 b4_0 b4_1], 0, .ro)), (6, ([.ints .u8 b6_0 b6_1], 0, .ro)), (8, ([.ints .u8 b8_0 b8_1], 0, .ro)), (10, ([.ints .u32 8 b10], 110, .norm))], 11⟩ => some (b0_0, b0_1, b0_2, b1_0, b1_1, b1_2, b4_0, b4_1, b6_0, b6_1, b8_0, b8_1, b10)
  | _, _ => none
def f40v1.lp (K : Nat) : Nat → Option (Hint × Summ) := tabLp [(2, f40v1.s2.h, summOr f40v1.s2.inX (summOf (iter (f40v1.s2 K) K) f40v1.s2.inX f40v1.s2.des) (summOr f40v1.s2b.inX (summOf (iter (f40v1.s2b K) K) f40v1.s2b.inX f40v1.s2b.des) (summOf (iter (f40v1.s2c K) K) f40v1.s2c.inX f40v1.s2c.des)))]
noncomputable def f40v1.tab (K : Nat) : List (Nat × Entry) := [(62, (f62.E K))]
theorem f40v1.tabOK (K : Nat) : SpecOK Try.prog (tabSp (f40v1.tab K)) := tab_ok ((tab_cons (f62.ok K) tab_nil))
theorem f40v1.s2.eq (K : Nat) (rec : f40v1.Ty0 → Option (f40v1.Ty1)) (x : f40v1.Ty0) : f40v1.s2 K rec x = roundL (getA tys) (tabSp (f40v1.tab K)) 76 10 (f40v1.lp K) 400 f40v1.s2.b f40v1.s2.h f40v1.s2.ho f40v1.s2.shp f40v1.s2.inX f40v1.s2.inY rec x := by kernel_rfl
theorem f40v1.s2.lok (K : Nat) : LoopsOK Try.prog 76 10 (f40v1.lp K) f40v1.s2.b := loops_ok (by
  have h : loopsIn (f40v1.lp K) f40v1.s2.b = [] := by kernel_rfl
  rw [h]; simp)
theorem f40v1.s2.ok (K : Nat) : SummOK Try.prog 76 10 (summOf (iter (f40v1.s2 K) K) f40v1.s2.inX f40v1.s2.des) f40v1.s2.b :=
  loop_ok mix tys_ok (f40v1.tabOK K) (h := f40v1.s2.h) (ho := f40v1.s2.ho) (shp := f40v1.s2.shp) (inX := f40v1.s2.inX) (des := f40v1.s2.des) (out := f40v1.s2.out) (inY := f40v1.s2.inY) (fuel := 400)
    (by intro st x h; unfold f40v1.s2.inX at h; split at h <;> simp at h; subst h; rfl)
    (by intro e st y h; unfold f40v1.s2.inY at h; split at h <;> simp at h <;> subst h <;> rfl)
    f40v1.s2.desOK (f40v1.s2.lok K) (f40v1.s2 K) (f40v1.s2.eq K) K
theorem f40v1.s2b.eq (K : Nat) (rec : f40v1.Ty0 → Option (f40v1.Ty1)) (x : f40v1.Ty0) : f40v1.s2b K rec x = roundL (getA tys) (tabSp (f40v1.tab K)) 76 10 (f40v1.lp K) 400 f40v1.s2b.b f40v1.s2b.h f40v1.s2b.ho f40v1.s2b.shp f40v1.s2b.inX f40v1.s2b.inY rec x := by kernel_rfl
theorem f40v1.s2b.lok (K : Nat) : LoopsOK Try.prog 76 10 (f40v1.lp K) f40v1.s2b.b := loops_ok (by
  have h : loopsIn (f40v1.lp K) f40v1.s2b.b = [] := by kernel_rfl
  rw [h]; simp)
theorem f40v1.s2b.ok (K : Nat) : SummOK Try.prog 76 10 (summOf (iter (f40v1.s2b K) K) f40v1.s2b.inX f40v1.s2b.des) f40v1.s2b.b :=
  loop_ok mix tys_ok (f40v1.tabOK K) (h := f40v1.s2b.h) (ho := f40v1.s2b.ho) (shp := f40v1.s2b.shp) (inX := f40v1.s2b.inX) (des := f40v1.s2b.des) (out := f40v1.s2b.out) (inY := f40v1.s2b.inY) (fuel := 400)
    (by intro st x h; unfold f40v1.s2b.inX at h; split at h <;> simp at h; subst h; rfl)
    (by intro e st y h; unfold f40v1.s2b.inY at h; split at h <;> simp at h <;> subst h <;> rfl)
    f40v1.s2b.desOK (f40v1.s2b.lok K) (f40v1.s2b K) (f40v1.s2b.eq K) K
theorem f40v1.s2c.eq (K : Nat) (rec : f40v1.Ty0 → Option (f40v1.Ty1)) (x : f40v1.Ty0) : f40v1.s2c K rec x = roundL (getA tys) (tabSp (f40v1.tab K)) 76 10 (f40v1.lp K) 400 f40v1.s2c.b f40v1.s2c.h f40v1.s2c.ho f40v1.s2c.shp f40v1.s2c.inX f40v1.s2c.inY rec x := by kernel_rfl
theorem f40v1.s2c.lok (K : Nat) : LoopsOK Try.prog 76 10 (f40v1.lp K) f40v1.s2c.b := loops_ok (by
  have h : loopsIn (f40v1.lp K) f40v1.s2c.b = [] := by kernel_rfl
  rw [h]; simp)
theorem f40v1.s2c.ok (K : Nat) : SummOK Try.prog 76 10 (summOf (iter (f40v1.s2c K) K) f40v1.s2c.inX f40v1.s2c.des) f40v1.s2c.b :=
  loop_ok mix tys_ok (f40v1.tabOK K) (h := f40v1.s2c.h) (ho := f40v1.s2c.ho) (shp := f40v1.s2c.shp) (inX := f40v1.s2c.inX) (des := f40v1.s2c.des) (out := f40v1.s2c.out) (inY := f40v1.s2c.inY) (fuel := 400)
    (by intro st x h; unfold f40v1.s2c.inX at h; split at h <;> simp at h; subst h; rfl)
    (by intro e st y h; unfold f40v1.s2c.inY at h; split at h <;> simp at h <;> subst h <;> rfl)
    f40v1.s2c.desOK (f40v1.s2c.lok K) (f40v1.s2c K) (f40v1.s2c.eq K) K
theorem f40v1.loops (K : Nat) : LoopsOK Try.prog 76 10 (f40v1.lp K) f40v1.c := loops_ok (by
  have h : loopsIn (f40v1.lp K) f40v1.c = [(2, f40v1.s2.b)] := by kernel_rfl
  rw [h]
  intro p hp
  simp only [List.mem_cons, List.not_mem_nil, or_false] at hp
  rcases hp with rfl
  · exact ⟨_, rfl, (summOr_ok (f40v1.s2.ok K) (summOr_ok (f40v1.s2b.ok K) (f40v1.s2c.ok K)))⟩)
def f40v1.T (K : Nat) (m0_0 : List Int) (m0_1 : Int) (m0_2 : Int) (m1_0 : Nat) (m1_1 : Nat) (m1_2 : Nat) (m3 : List Int) (m4_0 : Nat) (m4_1 : List Int) (m6_0 : Nat) (m6_1 : List Int) (m8_0 : Nat) (m8_1 : List Int) : Option (f40v1.Ty1) :=
  (iter (f40v1.s2 K) K (0, m1_0, m0_0, m0_1, (IntKind.wrap .u64 (m0_2 + (IntKind.wrap .u64 ((m1_0 : Nat) : Int)))), m1_0, m1_1, m1_2, m4_0, m4_1, m6_0, m6_1, m8_0, m8_1, m3)).bind fun y15 =>
  let v16 := y15.2.2.2.2.1
  (iter (f40v1.s2b K) K (0, v16, y15.1, y15.2.1, (IntKind.wrap .u64 (y15.2.2.1 + (IntKind.wrap .u64 ((v16 : Nat) : Int)))), y15.2.2.2.1, y15.2.2.2.2.1, y15.2.2.2.2.2.1, y15.2.2.2.2.2.2.1, y15.2.2.2.2.2.2.2.1, y15.2.2.2.2.2.2.2.2.1, y15.2.2.2.2.2.2.2.2.2.1, y15.2.2.2.2.2.2.2.2.2.2.1, y15.2.2.2.2.2.2.2.2.2.2.2.1, y15.2.2.2.2.2.2.2.2.2.2.2.2)).bind fun y31 =>
  let v32 := y31.2.2.2.2.2.1
  (iter (f40v1.s2c K) K (0, v32, y31.1, y31.2.1, (IntKind.wrap .u64 (y31.2.2.1 + (IntKind.wrap .u64 ((v32 : Nat) : Int)))), y31.2.2.2.1, y31.2.2.2.2.1, y31.2.2.2.2.2.1, y31.2.2.2.2.2.2.1, y31.2.2.2.2.2.2.2.1, y31.2.2.2.2.2.2.2.2.1, y31.2.2.2.2.2.2.2.2.2.1, y31.2.2.2.2.2.2.2.2.2.2.1, y31.2.2.2.2.2.2.2.2.2.2.2.1, y31.2.2.2.2.2.2.2.2.2.2.2.2)).bind fun y47 =>
  some (y47.1, y47.2.1, y47.2.2.1, y47.2.2.2.1, y47.2.2.2.2.1, y47.2.2.2.2.2.1, y47.2.2.2.2.2.2.1, y47.2.2.2.2.2.2.2.1, y47.2.2.2.2.2.2.2.2.1, y47.2.2.2.2.2.2.2.2.2.1, y47.2.2.2.2.2.2.2.2.2.2.1, y47.2.2.2.2.2.2.2.2.2.2.2.1, y47.2.2.2.2.2.2.2.2.2.2.2.2)
def f40v1.F (K : Nat) (x : f40v1.Ty2) : Option (f40v1.Ty1) := f40v1.T K x.1 x.2.1 x.2.2.1 x.2.2.2.1 x.2.2.2.2.1 x.2.2.2.2.2.1 x.2.2.2.2.2.2.1 x.2.2.2.2.2.2.2.1 x.2.2.2.2.2.2.2.2.1 x.2.2.2.2.2.2.2.2.2.1 x.2.2.2.2.2.2.2.2.2.2.1 x.2.2.2.2.2.2.2.2.2.2.2.1 x.2.2.2.2.2.2.2.2.2.2.2.2
def f40v1.av (_x : f40v1.Ty2) : List VV := [.ptr 0 0, .vw true 1 0 3 2]
def f40v1.bl (x : f40v1.Ty2) : List (Nat × Blk) := [(0, ([.ptr 3 0, .ints .u8 64 x.1, .int .i64 x.2.1, .int .u64 x.2.2.1], 30, .norm)), (1, ([.vw true 4 0 x.2.2.2.1 5, .vw true 6 0 x.2.2.2.2.1 7, .vw true 8 0 x.2.2.2.2.2.1 9], 0, .ro)), (3, ([.ints .u32 8 x.2.2.2.2.2.2.1], 110, .norm)), (4, ([.ints .u8 x.2.2.2.2.2.2.2.1 x.2.2.2.2.2.2.2.2.1], 0, .ro)), (6, ([.ints .u8 x.2.2.2.2.2.2.2.2.2.1 x.2.2.2.2.2.2.2.2.2.2.1], 0, .ro)), (8, ([.ints .u8 x.2.2.2.2.2.2.2.2.2.2.2.1 x.2.2.2.2.2.2.2.2.2.2.2.2], 0, .ro))]
def f40v1.inA : VS → Option (f40v1.Ty2)
  | ⟨[(0, .ptr 0 0), (1, .vw true 1 0 3 2)], [(0, ([.ptr 3 0, .ints .u8 64 m0_0, .int .i64 m0_1, .int .u64 m0_2], 30, .norm)), (1, ([.vw true 4 0 m1_0 5, .vw true 6 0 m1_1 7, .vw true 8 0 m1_2 9], 0, .ro)), (3, ([.ints .u32 8 m3], 110, .norm)), (4, ([.ints .u8 m4_0 m4_1], 0, .ro)), (6, ([.ints .u8 m6_0 m6_1], 0, .ro)), (8, ([.ints .u8 m8_0 m8_1], 0, .ro))], 10⟩ => some (m0_0, m0_1, m0_2, m1_0, m1_1, m1_2, m3, m4_0, m4_1, m6_0, m6_1, m8_0, m8_1)
  | _ => none
def f40v1.o0 (y : f40v1.Ty1) : VS := ⟨[(0, .tup [])], [(0, ([.ptr 10 0, .ints .u8 64 y.1, .int .i64 y.2.1, .int .u64 y.2.2.1], 30, .norm)), (1, ([.vw true 4 0 y.2.2.2.1 5, .vw true 6 0 y.2.2.2.2.1 7, .vw true 8 0 y.2.2.2.2.2.1 9], 0, .ro)), (3, ([], 110, .dead)), (4, ([.ints .u8 y.2.2.2.2.2.2.1 y.2.2.2.2.2.2.2.1], 0, .ro)), (6, ([.ints .u8 y.2.2.2.2.2.2.2.2.1 y.2.2.2.2.2.2.2.2.2.1], 0, .ro)), (8, ([.ints .u8 y.2.2.2.2.2.2.2.2.2.2.1 y.2.2.2.2.2.2.2.2.2.2.2.1], 0, .ro)), (10, ([.ints .u32 8 y.2.2.2.2.2.2.2.2.2.2.2.2], 110, .norm))], 11⟩
def f40v1.des : ∀ α : Type, (f40v1.Ty1) → (VS → Option α) → Option α := (dv1 f40v1.o0)
def f40v1.out : f40v1.Ty1 → VS := f40v1.o0
def f40v1.inR : VS → Option (f40v1.Ty1)
  | ⟨[(0, .tup [])], [(0, ([.ptr 10 0, .ints .u8 64 z0_0, .int .i64 z0_1, .int .u64 z0_2], 30, .norm)), (1, ([.vw true 4 0 z1_0 5, .vw true 6 0 z1_1 7, .vw true 8 0 z1_2 9], 0, .ro)), (3, ([], 110, .dead)), (4, ([.ints .u8 z4_0 z4_1], 0, .ro)), (6, ([.ints .u8 z6_0 z6_1], 0, .ro)), (8, ([.ints .u8 z8_0 z8_1], 0, .ro)), (10, ([.ints .u32 8 z10], 110, .norm))], 11⟩ => some (z0_0, z0_1, z0_2, z1_0, z1_1, z1_2, z4_0, z4_1, z6_0, z6_1, z8_0, z8_1, z10)
  | _ => none
noncomputable def f40v1.E (K : Nat) : Entry := genE 10 f40v1.inA (f40v1.F K) f40v1.des
theorem f40v1.eq (K : Nat) (x : f40v1.Ty2) : f40v1.F K x = xrun (getA tys) (tabSp (f40v1.tab K)) Try.f40.ntmps 10 (f40v1.lp K) 400 f40v1.c ⟨initL 0 (f40v1.av x), f40v1.bl x, 10⟩ (contF (getA tys) 10 Try.f40.results.toList f40v1.inR) := by kernel_rfl
theorem f40v1.ok (K : Nat) : EntryOK Try.prog 40 (f40v1.E K) :=
  gen_ok mix tys_ok (f40v1.tabOK K) Try.func40 (by kernel_rfl : Try.f40.body = some f40v1.c) (by kernel_rfl) (f40v1.loops K) (av := f40v1.av) (bl := f40v1.bl) (out := f40v1.out) (fuel := 400)
    (by intro s x h; unfold f40v1.inA at h; split at h <;> simp at h; subst h; rfl) (fun _ => Nat.le_of_ble_eq_true rfl)
    (by intro s y h; unfold f40v1.inR at h; split at h <;> simp at h <;> subst h <;> rfl) (fun _ _ _ => rfl) (f40v1.eq K)
end Go.Proofs

namespace Go.Proofs
open Go.VM
def Sh.init : List Int := [1779033703, 3144134277, 1013904242, 2773480762, 1359893119, 2600822924, 528734635, 1541459225]
def Sh.chain (m : List Int) : Nat → List Int
  | 0 => Sh.init
  | n + 1 => Sh.comp (Sh.chain m n) ((m.drop (64 * n)).take 64)
theorem Sh.chain_append (m q : List Int) : ∀ n, 64 * n ≤ m.length → Sh.chain (m ++ q) n = Sh.chain m n
  | 0, _ => rfl
  | n + 1, h => by
    rw [Sh.chain, Sh.chain, Sh.chain_append m q n (by omega), List.drop_append_of_le_length (by omega), List.take_append_of_le_length (by simp; omega)]
structure Sh.Rep (m : List Int) (b : List Int) (h : Int) (s : List Int) : Prop where
  len : b.length = 64
  oct : octets b
  held : h = ((m.length % 64 : Nat) : Int)
  rest : b.take (m.length % 64) = m.drop (64 * (m.length / 64))
  st : s = Sh.chain m (m.length / 64)
theorem padT_take (l : List Int) (n : Nat) (h : n ≤ l.length) : padT l n = l.take n := by
  have := subI_cut l 0 n (by omega)
  rw [List.drop_zero] at this
  rw [← this]
  simp [padT, subI]
theorem Sh.Rep.block {m b s : List Int} {h : Int} (R : Sh.Rep m b h s) (q L : List Int) (k : Nat) (hk : q.length = k) (hL : L.take k = q) (hle : k ≤ L.length) (hr : m.length % 64 + k ≤ 64) :
    spl b (m.length % 64) k L = m.drop (64 * (m.length / 64)) ++ q ++ b.drop (m.length % 64 + k) := by
  rw [spl, padT_take b _ (by have := R.len; omega), padT_take L k hle, hL, R.rest]
theorem Sh.Rep.some {m b s : List Int} {h : Int} (R : Sh.Rep m b h s) (q L : List Int) (k : Nat) (hk : q.length = k) (ho : octets L) (hL : L.take k = q) (hle : k ≤ L.length) (hr : m.length % 64 + k < 64) :
    Sh.Rep (m ++ q) (spl b (m.length % 64) k L) (h + k) s := by
  have e := R.block q L k hk hL hle (by omega)
  have l1 : (m ++ q).length / 64 = m.length / 64 := by rw [List.length_append]; omega
  have l2 : (m ++ q).length % 64 = m.length % 64 + k := by rw [List.length_append]; omega
  have d : (m.drop (64 * (m.length / 64))).length = m.length % 64 := by rw [List.length_drop]; omega
  refine ⟨?_, octets_spl R.oct ho _ _, ?_, ?_, ?_⟩
  · have dd : (b.drop (m.length % 64 + k)).length = 64 - (m.length % 64 + k) := by rw [List.length_drop, R.len]
    rw [e, List.length_append, List.length_append, dd, d, hk]; omega
  · rw [R.held, l2]; omega
  · rw [l1, l2, e, List.take_append_of_le_length (by rw [List.length_append, d]; omega), List.take_of_length_le (by rw [List.length_append, d]; omega), List.drop_append_of_le_length (by omega)]
  · rw [l1, Sh.chain_append _ _ _ (by omega)]; exact R.st
theorem Sh.Rep.full {m b s : List Int} {h : Int} (R : Sh.Rep m b h s) (q L : List Int) (k : Nat) (hk : q.length = k) (ho : octets L) (hL : L.take k = q) (hle : k ≤ L.length) (hr : m.length % 64 + k = 64) :
    Sh.Rep (m ++ q) (spl b (m.length % 64) k L) 0 (Sh.comp s (spl b (m.length % 64) k L)) := by
  have e := R.block q L k hk hL hle (by omega)
  have l1 : (m ++ q).length / 64 = m.length / 64 + 1 := by rw [List.length_append]; omega
  have l2 : (m ++ q).length % 64 = 0 := by rw [List.length_append]; omega
  have d : (m.drop (64 * (m.length / 64))).length = m.length % 64 := by rw [List.length_drop]; omega
  have eb : b.drop (m.length % 64 + k) = [] := List.drop_of_length_le (by have := R.len; omega)
  rw [eb, List.append_nil] at e
  refine ⟨?_, octets_spl R.oct ho _ _, ?_, ?_, ?_⟩
  · rw [e, List.length_append, d]; omega
  · rw [l2]; rfl
  · rw [l1, l2, List.take_zero, List.drop_of_length_le (by rw [List.length_append]; omega)]
  · rw [l1, Sh.chain, Sh.chain_append _ _ _ (by omega), ← R.st, List.drop_append_of_le_length (by omega), e, List.take_of_length_le (by rw [List.length_append, d]; omega)]
theorem sub_take (p : List Int) (off rem k : Nat) (h : off + rem = p.length) (hk : k ≤ rem) : p.take (off + k) = p.take off ++ (subI p off rem).take k := by
  rw [subI_cut p off rem (by omega), List.take_take, Nat.min_eq_left hk, List.take_add]
theorem tot_add (m n : Nat) : IntKind.wrap .u64 (((m % 18446744073709551616 : Nat) : Int) + (IntKind.wrap .u64 ((n : Nat) : Int))) = (((m + n) % 18446744073709551616 : Nat) : Int) := by
  rw [wrap_nat, show ∀ a b : Nat, ((a : Int) + (b : Int)) = ((a + b : Nat) : Int) from fun a b => rfl, wrap_nat]
  congr 1
  omega
theorem Sh.take_all {T O : Type} {stp : (T → Option O) → T → Option O} (p : List Int) (pack : Nat → Nat → List Int → Int → List Int → T) (fin : List Int → Int → List Int → O)
    (hend : ∀ rec off b h s, stp rec (pack off 0 b h s) = some (fin b h s))
    (hgo : ∀ rec off rem b r k s, off + rem = p.length → 0 < rem → r < 64 → min rem (64 - r) = k → octets (spl b r k (subI p off rem)) → stp rec (pack off rem b (r : Int) s) = if r + k = 64 then rec (pack (off + k) (rem - k) (spl b r k (subI p off rem)) 0 (Sh.comp s (spl b r k (subI p off rem)))) else rec (pack (off + k) (rem - k) (spl b r k (subI p off rem)) ((r + k : Nat) : Int) s))
    (K : Nat) (m : List Int) (ho : octets p) (b s : List Int) (h : Int) (R : Sh.Rep m b h s) (hK2 : 2 * ((m.length % 64 + p.length) / 64) + 1 < K) :
    ∃ b' h' s', iter stp K (pack 0 p.length b h s) = some (fin b' h' s') ∧ Sh.Rep (m ++ p) b' h' s' := by
  refine Exists.elim (iter_inv (stp := stp)
    (fun n x => ∃ off rem b h s, x = pack off rem b h s ∧ off + rem = p.length ∧ Sh.Rep (m ++ p.take off) b h s ∧ 2 * (((m ++ p.take off).length % 64 + rem) / 64) + (if rem = 0 then 0 else 1) = n)
    (fun y => ∃ b' h' s', y = fin b' h' s' ∧ Sh.Rep (m ++ p) b' h' s') ?_ (2 * ((m.length % 64 + p.length) / 64) + (if p.length = 0 then 0 else 1)) (pack 0 p.length b h s)
    ⟨0, p.length, b, h, s, rfl, by omega, by rw [List.take_zero, List.append_nil]; exact R, by rw [List.take_zero, List.append_nil]⟩ K (by split <;> omega)) ?_
  · intro n x hx
    obtain ⟨off, rem, b, h, s, rfl, hsum, R, hm⟩ := hx
    rcases Nat.eq_zero_or_pos rem with h0 | h0
    · subst h0
      refine Or.inl ⟨_, ⟨b, h, s, rfl, ?_⟩, fun rec => hend rec off b h s⟩
      rw [List.take_of_length_le (by omega)] at R; exact R
    · refine Or.inr ?_
      generalize hM : m ++ p.take off = M at R hm
      have hd := R.held
      have hr : M.length % 64 < 64 := Nat.mod_lt _ (by decide)
      generalize hk : min rem (64 - M.length % 64) = k
      have hk1 : k ≤ rem := by omega
      have es : M ++ (subI p off rem).take k = m ++ p.take (off + k) := by rw [sub_take p off rem k hsum hk1, ← List.append_assoc, hM]
      have hq : ((subI p off rem).take k).length = k := by rw [List.length_take, subI_length]; omega
      have hob := octets_spl R.oct (octets_sub ho off rem) (M.length % 64) k
      have go := fun rec => hgo rec off rem b (M.length % 64) k s hsum h0 hr hk hob
      rcases Nat.lt_or_ge (M.length % 64 + k) 64 with hc | hc
      · have R' := R.some _ (subI p off rem) k hq (octets_sub ho off rem) rfl (by rw [subI_length]; exact hk1) hc
        rw [es, hd, show ((M.length % 64 : Nat) : Int) + (k : Int) = ((M.length % 64 + k : Nat) : Int) from by omega] at R'
        refine ⟨_, _, ?_, ⟨off + k, rem - k, _, _, s, rfl, by omega, R', rfl⟩, fun rec => by rw [hd, go rec, if_neg (by omega)]⟩
        rw [← es, List.length_append, hq, ← hm, if_neg (show rem ≠ 0 by omega), if_pos (show rem - k = 0 by omega)]
        have : (M.length + k) % 64 + (rem - k) = M.length % 64 + rem := by omega
        rw [this]; omega
      · have hc' : M.length % 64 + k = 64 := by omega
        have R' := R.full _ (subI p off rem) k hq (octets_sub ho off rem) rfl (by rw [subI_length]; exact hk1) hc'
        rw [es] at R'
        refine ⟨_, _, ?_, ⟨off + k, rem - k, _, _, _, rfl, by omega, R', rfl⟩, fun rec => by rw [hd, go rec, if_pos hc']⟩
        rw [← es, List.length_append, hq, ← hm, if_neg (show rem ≠ 0 by omega)]
        split <;> omega
  · rintro y ⟨⟨b', h', s', rfl, hR⟩, hy⟩
    exact ⟨b', h', s', hy, hR⟩
theorem f40v2.s2_ok (K : Nat) (m : List Int) (mn : Int) (k0 : Nat) (k1 : Nat) (n0 : Nat) (l0 : List Int) (n1 : Nat) (l1 : List Int) (hl : l0.length = n0) (ho : octets l0) (hn : n0 ≤ 1000000000000) (hK : 64 < K) (b s : List Int) (h : Int) (R : Sh.Rep m b h s) (hK2 : 2 * ((m.length % 64 + n0) / 64) + 1 < K) :
    ∃ b' h' s', iter (f40v2.s2 K) K (0, n0, b, h, mn, k0, k1, n0, l0, n1, l1, s) = some (b', h', mn, k0, k1, n0, l0, n1, l1, s') ∧ Sh.Rep (m ++ l0) b' h' s' := by
  subst hl
  refine Sh.take_all l0 (fun off rem b h s => (off, rem, b, h, mn, k0, k1, l0.length, l0, n1, l1, s)) (fun b h s => (b, h, mn, k0, k1, l0.length, l0, n1, l1, s)) (fun rec off b h s => ?_) (fun rec off rem b r k s hsum h0 hr hk hob => ?_) K m ho b s h R hK2
  · simp only [f40v2.s2, f40v2.s2t]
    rw [decide_eq_false (show ¬ (((0 : Nat) : Int) > 0) by omega), cond_f]
  · have e6 : (bif Nat.beq 64 r then 0 else r) = r := by rw [show Nat.beq 64 r = false from (by rw [← Bool.not_eq_true, Nat.beq_eq]; omega), cond_f]
    have e9 : Nat.min rem (64 - r) = k := hk
    simp only [f40v2.s2, f40v2.s2t]
    rw [decide_eq_true (show (((rem : Nat) : Int) > 0) by omega), cond_t, decide_eq_true (show (0 : Int) ≤ (r : Int) ∧ (r : Int) ≤ 64 by omega), cond_t]
    simp only [Int.toNat_natCast, e6, e9]
    rw [ble_true (show off + rem ≤ l0.length by omega), ble_true (show r + (64 - r) ≤ 64 by omega), show Nat.beq rem rem = true from Nat.beq_refl rem, Bool.and_self, Bool.and_self, Bool.and_self, cond_t, decide_eq_true (show (0 : Int) ≤ (k : Int) ∧ (k : Int) ≤ (rem : Int) by omega), cond_t,
      show IntKind.wrap .i64 ((r : Int) + (k : Int)) = ((r + k : Nat) : Int) by rw [wrap_i _ (by omega) (by omega)]; omega]
    by_cases hc : r + k = 64
    · rw [if_pos hc, show (((r + k : Nat) : Int) == 64) = true from beq_iff_eq.2 (by omega), cond_t, f62.spec K s _ _ mn hob hK, bind_s]
    · rw [if_neg hc, show (((r + k : Nat) : Int) == 64) = false from beq_eq_false_iff_ne.2 (by omega), cond_f]
theorem f40v2.s2b_ok (K : Nat) (m : List Int) (mn : Int) (k0 : Nat) (k1 : Nat) (n0 : Nat) (l0 : List Int) (n1 : Nat) (l1 : List Int) (hl : l1.length = n1) (ho : octets l1) (hn : n1 ≤ 1000000000000) (hK : 64 < K) (b s : List Int) (h : Int) (R : Sh.Rep m b h s) (hK2 : 2 * ((m.length % 64 + n1) / 64) + 1 < K) :
    ∃ b' h' s', iter (f40v2.s2b K) K (0, n1, b, h, mn, k0, k1, n0, l0, n1, l1, s) = some (b', h', mn, k0, k1, n0, l0, n1, l1, s') ∧ Sh.Rep (m ++ l1) b' h' s' := by
  subst hl
  refine Sh.take_all l1 (fun off rem b h s => (off, rem, b, h, mn, k0, k1, n0, l0, l1.length, l1, s)) (fun b h s => (b, h, mn, k0, k1, n0, l0, l1.length, l1, s)) (fun rec off b h s => ?_) (fun rec off rem b r k s hsum h0 hr hk hob => ?_) K m ho b s h R hK2
  · simp only [f40v2.s2b, f40v2.s2bt]
    rw [decide_eq_false (show ¬ (((0 : Nat) : Int) > 0) by omega), cond_f]
  · have e6 : (bif Nat.beq 64 r then 0 else r) = r := by rw [show Nat.beq 64 r = false from (by rw [← Bool.not_eq_true, Nat.beq_eq]; omega), cond_f]
    have e9 : Nat.min rem (64 - r) = k := hk
    simp only [f40v2.s2b, f40v2.s2bt]
    rw [decide_eq_true (show (((rem : Nat) : Int) > 0) by omega), cond_t, decide_eq_true (show (0 : Int) ≤ (r : Int) ∧ (r : Int) ≤ 64 by omega), cond_t]
    simp only [Int.toNat_natCast, e6, e9]
    rw [ble_true (show off + rem ≤ l1.length by omega), ble_true (show r + (64 - r) ≤ 64 by omega), show Nat.beq rem rem = true from Nat.beq_refl rem, Bool.and_self, Bool.and_self, Bool.and_self, cond_t, decide_eq_true (show (0 : Int) ≤ (k : Int) ∧ (k : Int) ≤ (rem : Int) by omega), cond_t,
      show IntKind.wrap .i64 ((r : Int) + (k : Int)) = ((r + k : Nat) : Int) by rw [wrap_i _ (by omega) (by omega)]; omega]
    by_cases hc : r + k = 64
    · rw [if_pos hc, show (((r + k : Nat) : Int) == 64) = true from beq_iff_eq.2 (by omega), cond_t, f62.spec K s _ _ mn hob hK, bind_s]
    · rw [if_neg hc, show (((r + k : Nat) : Int) == 64) = false from beq_eq_false_iff_ne.2 (by omega), cond_f]
theorem f40.s2_ok (K : Nat) (m : List Int) (mn : Int) (k0 : Nat) (n0 : Nat) (l0 : List Int) (hl : l0.length = n0) (ho : octets l0) (hn : n0 ≤ 1000000000000) (hK : 64 < K) (b s : List Int) (h : Int) (R : Sh.Rep m b h s) (hK2 : 2 * ((m.length % 64 + n0) / 64) + 1 < K) :
    ∃ b' h' s', iter (f40.s2 K) K (0, n0, b, h, mn, k0, n0, l0, s) = some (b', h', mn, k0, n0, l0, s') ∧ Sh.Rep (m ++ l0) b' h' s' := by
  subst hl
  refine Sh.take_all l0 (fun off rem b h s => (off, rem, b, h, mn, k0, l0.length, l0, s)) (fun b h s => (b, h, mn, k0, l0.length, l0, s)) (fun rec off b h s => ?_) (fun rec off rem b r k s hsum h0 hr hk hob => ?_) K m ho b s h R hK2
  · simp only [f40.s2, f40.s2t]
    rw [decide_eq_false (show ¬ (((0 : Nat) : Int) > 0) by omega), cond_f]
  · have e6 : (bif Nat.beq 64 r then 0 else r) = r := by rw [show Nat.beq 64 r = false from (by rw [← Bool.not_eq_true, Nat.beq_eq]; omega), cond_f]
    have e9 : Nat.min rem (64 - r) = k := hk
    simp only [f40.s2, f40.s2t]
    rw [decide_eq_true (show (((rem : Nat) : Int) > 0) by omega), cond_t, decide_eq_true (show (0 : Int) ≤ (r : Int) ∧ (r : Int) ≤ 64 by omega), cond_t]
    simp only [Int.toNat_natCast, e6, e9]
    rw [ble_true (show off + rem ≤ l0.length by omega), ble_true (show r + (64 - r) ≤ 64 by omega), show Nat.beq rem rem = true from Nat.beq_refl rem, Bool.and_self, Bool.and_self, Bool.and_self, cond_t, decide_eq_true (show (0 : Int) ≤ (k : Int) ∧ (k : Int) ≤ (rem : Int) by omega), cond_t,
      show IntKind.wrap .i64 ((r : Int) + (k : Int)) = ((r + k : Nat) : Int) by rw [wrap_i _ (by omega) (by omega)]; omega]
    by_cases hc : r + k = 64
    · rw [if_pos hc, show (((r + k : Nat) : Int) == 64) = true from beq_iff_eq.2 (by omega), cond_t, f62.spec K s _ _ mn hob hK, bind_s]
    · rw [if_neg hc, show (((r + k : Nat) : Int) == 64) = false from beq_eq_false_iff_ne.2 (by omega), cond_f]
theorem f40v1.s2_ok (K : Nat) (m : List Int) (mn : Int) (k0 : Nat) (k1 : Nat) (k2 : Nat) (n0 : Nat) (l0 : List Int) (n1 : Nat) (l1 : List Int) (n2 : Nat) (l2 : List Int) (hl : l0.length = n0) (ho : octets l0) (hn : n0 ≤ 1000000000000) (hK : 64 < K) (b s : List Int) (h : Int) (R : Sh.Rep m b h s) (hK2 : 2 * ((m.length % 64 + n0) / 64) + 1 < K) :
    ∃ b' h' s', iter (f40v1.s2 K) K (0, n0, b, h, mn, k0, k1, k2, n0, l0, n1, l1, n2, l2, s) = some (b', h', mn, k0, k1, k2, n0, l0, n1, l1, n2, l2, s') ∧ Sh.Rep (m ++ l0) b' h' s' := by
  subst hl
  refine Sh.take_all l0 (fun off rem b h s => (off, rem, b, h, mn, k0, k1, k2, l0.length, l0, n1, l1, n2, l2, s)) (fun b h s => (b, h, mn, k0, k1, k2, l0.length, l0, n1, l1, n2, l2, s)) (fun rec off b h s => ?_) (fun rec off rem b r k s hsum h0 hr hk hob => ?_) K m ho b s h R hK2
  · simp only [f40v1.s2, f40v1.s2t]
    rw [decide_eq_false (show ¬ (((0 : Nat) : Int) > 0) by omega), cond_f]
  · have e6 : (bif Nat.beq 64 r then 0 else r) = r := by rw [show Nat.beq 64 r = false from (by rw [← Bool.not_eq_true, Nat.beq_eq]; omega), cond_f]
    have e9 : Nat.min rem (64 - r) = k := hk
    simp only [f40v1.s2, f40v1.s2t]
    rw [decide_eq_true (show (((rem : Nat) : Int) > 0) by omega), cond_t, decide_eq_true (show (0 : Int) ≤ (r : Int) ∧ (r : Int) ≤ 64 by omega), cond_t]
    simp only [Int.toNat_natCast, e6, e9]
    rw [ble_true (show off + rem ≤ l0.length by omega), ble_true (show r + (64 - r) ≤ 64 by omega), show Nat.beq rem rem = true from Nat.beq_refl rem, Bool.and_self, Bool.and_self, Bool.and_self, cond_t, decide_eq_true (show (0 : Int) ≤ (k : Int) ∧ (k : Int) ≤ (rem : Int) by omega), cond_t,
      show IntKind.wrap .i64 ((r : Int) + (k : Int)) = ((r + k : Nat) : Int) by rw [wrap_i _ (by omega) (by omega)]; omega]
    by_cases hc : r + k = 64
    · rw [if_pos hc, show (((r + k : Nat) : Int) == 64) = true from beq_iff_eq.2 (by omega), cond_t, f62.spec K s _ _ mn hob hK, bind_s]
    · rw [if_neg hc, show (((r + k : Nat) : Int) == 64) = false from beq_eq_false_iff_ne.2 (by omega), cond_f]
theorem f40v1.s2b_ok (K : Nat) (m : List Int) (mn : Int) (k0 : Nat) (k1 : Nat) (k2 : Nat) (n0 : Nat) (l0 : List Int) (n1 : Nat) (l1 : List Int) (n2 : Nat) (l2 : List Int) (hl : l1.length = n1) (ho : octets l1) (hn : n1 ≤ 1000000000000) (hK : 64 < K) (b s : List Int) (h : Int) (R : Sh.Rep m b h s) (hK2 : 2 * ((m.length % 64 + n1) / 64) + 1 < K) :
    ∃ b' h' s', iter (f40v1.s2b K) K (0, n1, b, h, mn, k0, k1, k2, n0, l0, n1, l1, n2, l2, s) = some (b', h', mn, k0, k1, k2, n0, l0, n1, l1, n2, l2, s') ∧ Sh.Rep (m ++ l1) b' h' s' := by
  subst hl
  refine Sh.take_all l1 (fun off rem b h s => (off, rem, b, h, mn, k0, k1, k2, n0, l0, l1.length, l1, n2, l2, s)) (fun b h s => (b, h, mn, k0, k1, k2, n0, l0, l1.length, l1, n2, l2, s)) (fun rec off b h s => ?_) (fun rec off rem b r k s hsum h0 hr hk hob => ?_) K m ho b s h R hK2
  · simp only [f40v1.s2b, f40v1.s2bt]
    rw [decide_eq_false (show ¬ (((0 : Nat) : Int) > 0) by omega), cond_f]
  · have e6 : (bif Nat.beq 64 r then 0 else r) = r := by rw [show Nat.beq 64 r = false from (by rw [← Bool.not_eq_true, Nat.beq_eq]; omega), cond_f]
    have e9 : Nat.min rem (64 - r) = k := hk
    simp only [f40v1.s2b, f40v1.s2bt]
    rw [decide_eq_true (show (((rem : Nat) : Int) > 0) by omega), cond_t, decide_eq_true (show (0 : Int) ≤ (r : Int) ∧ (r : Int) ≤ 64 by omega), cond_t]
    simp only [Int.toNat_natCast, e6, e9]
    rw [ble_true (show off + rem ≤ l1.length by omega), ble_true (show r + (64 - r) ≤ 64 by omega), show Nat.beq rem rem = true from Nat.beq_refl rem, Bool.and_self, Bool.and_self, Bool.and_self, cond_t, decide_eq_true (show (0 : Int) ≤ (k : Int) ∧ (k : Int) ≤ (rem : Int) by omega), cond_t,
      show IntKind.wrap .i64 ((r : Int) + (k : Int)) = ((r + k : Nat) : Int) by rw [wrap_i _ (by omega) (by omega)]; omega]
    by_cases hc : r + k = 64
    · rw [if_pos hc, show (((r + k : Nat) : Int) == 64) = true from beq_iff_eq.2 (by omega), cond_t, f62.spec K s _ _ mn hob hK, bind_s]
    · rw [if_neg hc, show (((r + k : Nat) : Int) == 64) = false from beq_eq_false_iff_ne.2 (by omega), cond_f]
theorem f40v1.s2c_ok (K : Nat) (m : List Int) (mn : Int) (k0 : Nat) (k1 : Nat) (k2 : Nat) (n0 : Nat) (l0 : List Int) (n1 : Nat) (l1 : List Int) (n2 : Nat) (l2 : List Int) (hl : l2.length = n2) (ho : octets l2) (hn : n2 ≤ 1000000000000) (hK : 64 < K) (b s : List Int) (h : Int) (R : Sh.Rep m b h s) (hK2 : 2 * ((m.length % 64 + n2) / 64) + 1 < K) :
    ∃ b' h' s', iter (f40v1.s2c K) K (0, n2, b, h, mn, k0, k1, k2, n0, l0, n1, l1, n2, l2, s) = some (b', h', mn, k0, k1, k2, n0, l0, n1, l1, n2, l2, s') ∧ Sh.Rep (m ++ l2) b' h' s' := by
  subst hl
  refine Sh.take_all l2 (fun off rem b h s => (off, rem, b, h, mn, k0, k1, k2, n0, l0, n1, l1, l2.length, l2, s)) (fun b h s => (b, h, mn, k0, k1, k2, n0, l0, n1, l1, l2.length, l2, s)) (fun rec off b h s => ?_) (fun rec off rem b r k s hsum h0 hr hk hob => ?_) K m ho b s h R hK2
  · simp only [f40v1.s2c, f40v1.s2ct]
    rw [decide_eq_false (show ¬ (((0 : Nat) : Int) > 0) by omega), cond_f]
  · have e6 : (bif Nat.beq 64 r then 0 else r) = r := by rw [show Nat.beq 64 r = false from (by rw [← Bool.not_eq_true, Nat.beq_eq]; omega), cond_f]
    have e9 : Nat.min rem (64 - r) = k := hk
    simp only [f40v1.s2c, f40v1.s2ct]
    rw [decide_eq_true (show (((rem : Nat) : Int) > 0) by omega), cond_t, decide_eq_true (show (0 : Int) ≤ (r : Int) ∧ (r : Int) ≤ 64 by omega), cond_t]
    simp only [Int.toNat_natCast, e6, e9]
    rw [ble_true (show off + rem ≤ l2.length by omega), ble_true (show r + (64 - r) ≤ 64 by omega), show Nat.beq rem rem = true from Nat.beq_refl rem, Bool.and_self, Bool.and_self, Bool.and_self, cond_t, decide_eq_true (show (0 : Int) ≤ (k : Int) ∧ (k : Int) ≤ (rem : Int) by omega), cond_t,
      show IntKind.wrap .i64 ((r : Int) + (k : Int)) = ((r + k : Nat) : Int) by rw [wrap_i _ (by omega) (by omega)]; omega]
    by_cases hc : r + k = 64
    · rw [if_pos hc, show (((r + k : Nat) : Int) == 64) = true from beq_iff_eq.2 (by omega), cond_t, f62.spec K s _ _ mn hob hK, bind_s]
    · rw [if_neg hc, show (((r + k : Nat) : Int) == 64) = false from beq_eq_false_iff_ne.2 (by omega), cond_f]
theorem f40v2.spec (K : Nat) (m : List Int) (n0 : Nat) (l0 : List Int) (n1 : Nat) (l1 : List Int) (e0 : l0.length = n0) (o0 : octets l0) (z0 : n0 ≤ 1000000000000) (e1 : l1.length = n1) (o1 : octets l1) (z1 : n1 ≤ 1000000000000) (b s : List Int) (h : Int) (R : Sh.Rep m b h s) (hK : 64 + n0 + n1 < K) :
    ∃ b' h' s', f40v2.F K (b, h, ((m.length % 18446744073709551616 : Nat) : Int), n0, n1, s, n0, l0, n1, l1) = some (b', h', (((m ++ l0 ++ l1).length % 18446744073709551616 : Nat) : Int), n0, n1, n0, l0, n1, l1, s') ∧ Sh.Rep (m ++ l0 ++ l1) b' h' s' := by
  simp only [f40v2.F, f40v2.T]
  rw [tot_add]
  obtain ⟨b0, h0, s0, i0, R0⟩ := f40v2.s2_ok K (m) ((((m).length + n0) % 18446744073709551616 : Nat) : Int) n0 n1 n0 l0 n1 l1 e0 o0 z0 (by omega) _ _ _ R (by omega)
  rw [i0, bind_s]
  simp only []
  rw [show (m).length + n0 = (m ++ l0).length from by simp only [List.length_append]; omega]
  rw [tot_add]
  obtain ⟨b1, h1, s1, i1, R1⟩ := f40v2.s2b_ok K (m ++ l0) ((((m ++ l0).length + n1) % 18446744073709551616 : Nat) : Int) n0 n1 n0 l0 n1 l1 e1 o1 z1 (by omega) _ _ _ R0 (by omega)
  rw [i1, bind_s]
  simp only []
  rw [show (m ++ l0).length + n1 = (m ++ l0 ++ l1).length from by simp only [List.length_append]; omega]
  exact ⟨b1, h1, s1, rfl, R1⟩
theorem f40.spec (K : Nat) (m : List Int) (n0 : Nat) (l0 : List Int) (e0 : l0.length = n0) (o0 : octets l0) (z0 : n0 ≤ 1000000000000) (b s : List Int) (h : Int) (R : Sh.Rep m b h s) (hK : 64 + n0 < K) :
    ∃ b' h' s', f40.F K (b, h, ((m.length % 18446744073709551616 : Nat) : Int), n0, s, n0, l0) = some (b', h', (((m ++ l0).length % 18446744073709551616 : Nat) : Int), n0, n0, l0, s') ∧ Sh.Rep (m ++ l0) b' h' s' := by
  simp only [f40.F, f40.T]
  rw [tot_add]
  obtain ⟨b0, h0, s0, i0, R0⟩ := f40.s2_ok K (m) ((((m).length + n0) % 18446744073709551616 : Nat) : Int) n0 n0 l0 e0 o0 z0 (by omega) _ _ _ R (by omega)
  rw [i0, bind_s]
  simp only []
  rw [show (m).length + n0 = (m ++ l0).length from by simp only [List.length_append]; omega]
  exact ⟨b0, h0, s0, rfl, R0⟩
theorem f40v1.spec (K : Nat) (m : List Int) (n0 : Nat) (l0 : List Int) (n1 : Nat) (l1 : List Int) (n2 : Nat) (l2 : List Int) (e0 : l0.length = n0) (o0 : octets l0) (z0 : n0 ≤ 1000000000000) (e1 : l1.length = n1) (o1 : octets l1) (z1 : n1 ≤ 1000000000000) (e2 : l2.length = n2) (o2 : octets l2) (z2 : n2 ≤ 1000000000000) (b s : List Int) (h : Int) (R : Sh.Rep m b h s) (hK : 64 + n0 + n1 + n2 < K) :
    ∃ b' h' s', f40v1.F K (b, h, ((m.length % 18446744073709551616 : Nat) : Int), n0, n1, n2, s, n0, l0, n1, l1, n2, l2) = some (b', h', (((m ++ l0 ++ l1 ++ l2).length % 18446744073709551616 : Nat) : Int), n0, n1, n2, n0, l0, n1, l1, n2, l2, s') ∧ Sh.Rep (m ++ l0 ++ l1 ++ l2) b' h' s' := by
  simp only [f40v1.F, f40v1.T]
  rw [tot_add]
  obtain ⟨b0, h0, s0, i0, R0⟩ := f40v1.s2_ok K (m) ((((m).length + n0) % 18446744073709551616 : Nat) : Int) n0 n1 n2 n0 l0 n1 l1 n2 l2 e0 o0 z0 (by omega) _ _ _ R (by omega)
  rw [i0, bind_s]
  simp only []
  rw [show (m).length + n0 = (m ++ l0).length from by simp only [List.length_append]; omega]
  rw [tot_add]
  obtain ⟨b1, h1, s1, i1, R1⟩ := f40v1.s2b_ok K (m ++ l0) ((((m ++ l0).length + n1) % 18446744073709551616 : Nat) : Int) n0 n1 n2 n0 l0 n1 l1 n2 l2 e1 o1 z1 (by omega) _ _ _ R0 (by omega)
  rw [i1, bind_s]
  simp only []
  rw [show (m ++ l0).length + n1 = (m ++ l0 ++ l1).length from by simp only [List.length_append]; omega]
  rw [tot_add]
  obtain ⟨b2, h2, s2, i2, R2⟩ := f40v1.s2c_ok K (m ++ l0 ++ l1) ((((m ++ l0 ++ l1).length + n2) % 18446744073709551616 : Nat) : Int) n0 n1 n2 n0 l0 n1 l1 n2 l2 e2 o2 z2 (by omega) _ _ _ R1 (by omega)
  rw [i2, bind_s]
  simp only []
  rw [show (m ++ l0 ++ l1).length + n2 = (m ++ l0 ++ l1 ++ l2).length from by simp only [List.length_append]; omega]
  exact ⟨b2, h2, s2, rfl, R2⟩
end Go.Proofs

namespace Go.Proofs
open Go.VM
abbrev f42.Ty0 := List Int × Int × Int × List Int
def f42.T (_K : Nat)  : Option (f42.Ty0) :=
  some ([0, 0, 0, 0, 0, 0, 0, 0, 0, 0, 0, 0, 0, 0, 0, 0, 0, 0, 0, 0, 0, 0, 0, 0, 0, 0, 0, 0, 0, 0, 0, 0, 0, 0, 0, 0, 0, 0, 0, 0, 0, 0, 0, 0, 0, 0, 0, 0, 0, 0, 0, 0, 0, 0, 0, 0, 0, 0, 0, 0, 0, 0, 0, 0], 0, 0, [1779033703, 3144134277, 1013904242, 2773480762, 1359893119, 2600822924, 528734635, 1541459225])
def f42.F (K : Nat) (_x : Unit) : Option (f42.Ty0) := f42.T K
def f42.av (_x : Unit) : List VV := []
def f42.bl (_x : Unit) : List (Nat × Blk) := []
def f42.inA : VS → Option (Unit)
  | ⟨[], [], 0⟩ => some ()
  | _ => none
def f42.o0 (y : f42.Ty0) : VS := ⟨[(0, .ptr 0 0)], [(0, ([.ptr 1 0, .ints .u8 64 y.1, .int .i64 y.2.1, .int .u64 y.2.2.1], 30, .norm)), (1, ([.ints .u32 8 y.2.2.2], 110, .norm))], 2⟩
def f42.inR : VS → Option (f42.Ty0)
  | ⟨[(0, .ptr 0 0)], [(0, ([.ptr 1 0, .ints .u8 64 z0_0, .int .i64 z0_1, .int .u64 z0_2], 30, .norm)), (1, ([.ints .u32 8 z1], 110, .norm))], 2⟩ => some (z0_0, z0_1, z0_2, z1)
  | _ => none
noncomputable def f42.E (K : Nat) : Entry := genE 0 f42.inA (f42.F K) (dv1 f42.o0)
theorem f42.ok (K : Nat) : EntryOK Try.prog 42 (f42.E K) := gen_ok mix tys_ok (tab_ok ( tab_nil)) Try.func42 (c := bodyOf Try.f42) (by kernel_rfl) (by kernel_rfl) (loops_none (lp := lpNone) (by kernel_rfl)) (av := f42.av) (bl := f42.bl) (inR := f42.inR) (out := f42.o0) (fuel := 400)
  (by intro s x h; unfold f42.inA at h; split at h <;> simp at h; rfl) (fun _ => Nat.le_of_ble_eq_true rfl)
  (by intro s y h; unfold f42.inR at h; split at h <;> simp at h <;> subst h <;> rfl) (fun _ _ _ => rfl) (fun _ => by kernel_rfl)
end Go.Proofs

namespace Go.Proofs
open Go.VM
abbrev f80.Ty0 := Nat × Nat × Int × Nat × List Int
abbrev f80.Ty1 := Nat × Nat × Nat × List Int
abbrev f80.Ty2 := Nat × Nat × List Int
def f80.T (_K : Nat) (a0_0 : Nat) (a0_1 : Nat) (a1 : Int) (m0_0 : Nat) (m0_1 : List Int) : Option ((f80.Ty2) ⊕ (f80.Ty1)) :=
  bif (decide (a1 < 0)) then
    none
  else
    let v5 := IntKind.wrap .i64 (a1 - (IntKind.wrap .i64 (((a0_1 : Nat) : Int) - ((a0_0 : Nat) : Int))))
    bif (decide (v5 > 0)) then
      let v7 := ((a0_1 : Nat) : Int)
      bif (decide (0 ≤ v7 ∧ v7 ≤ ((a0_1 : Nat) : Int)) && true) then
        let v8 := Int.toNat v7
        bif ((((decide (0 ≤ v5) && (fitB ((Int.toNat v5) * 1))) && (Nat.ble v8 m0_0)) && (Nat.ble a0_1 m0_0)) && (fitB ((v8 + (Int.toNat v5)) * 1))) then
          let v9 := v8 + (Int.toNat v5)
          let v10 := v8 + (Int.toNat v5)
          let v12 := ((a0_0 : Nat) : Int)
          bif (decide (0 ≤ v12 ∧ v12 ≤ ((v9 : Nat) : Int)) && (Nat.ble (0 + v9) v10)) then
            some (.inl ((Int.toNat v12), v10, ((padT m0_1 v8) ++ (padT [] (Int.toNat v5)))))
          else
            none
        else
          none
      else
        none
    else
      some (.inr (a0_0, a0_1, m0_0, m0_1))
def f80.F (K : Nat) (x : f80.Ty0) : Option ((f80.Ty2) ⊕ (f80.Ty1)) := f80.T K x.1 x.2.1 x.2.2.1 x.2.2.2.1 x.2.2.2.2
def f80.av (x : f80.Ty0) : List VV := [.sl 0 0 x.1 x.2.1, .int .i64 x.2.2.1]
def f80.bl (x : f80.Ty0) : List (Nat × Blk) := [(0, ([.ints .u8 x.2.2.2.1 x.2.2.2.2], 5, .norm))]
def f80.inA : VS → Option (f80.Ty0)
  | ⟨[(0, .sl 0 0 a0_0 a0_1), (1, .int .i64 a1)], [(0, ([.ints .u8 m0_0 m0_1], 5, .norm))], 1⟩ => some (a0_0, a0_1, a1, m0_0, m0_1)
  | _ => none
def f80.o0 (y : f80.Ty2) : VS := ⟨[(0, .vec 1 0 y.1 2)], [(0, ([], 5, .dead)), (1, ([.ints .u8 y.2.1 y.2.2], 5, .vec 2))], 3⟩
def f80.o1 (y : f80.Ty1) : VS := ⟨[(0, .sl 0 0 y.1 y.2.1)], [(0, ([.ints .u8 y.2.2.1 y.2.2.2], 5, .norm))], 1⟩
def f80.inR : VS → Option ((f80.Ty2) ⊕ (f80.Ty1))
  | ⟨[(0, .vec 1 0 y 2)], [(0, ([], 5, .dead)), (1, ([.ints .u8 z1_0 z1_1], 5, .vec 2))], 3⟩ => some (.inl (y, z1_0, z1_1))
  | ⟨[(0, .sl 0 0 y_0 y_1)], [(0, ([.ints .u8 z0_0 z0_1], 5, .norm))], 1⟩ => some (.inr (y_0, y_1, z0_0, z0_1))
  | _ => none
noncomputable def f80.E (K : Nat) : Entry := genE 1 f80.inA (f80.F K) (dvA (dv1 f80.o0) (dv1 f80.o1))
theorem f80.ok (K : Nat) : EntryOK Try.prog 80 (f80.E K) := gen_ok mix tys_ok (tab_ok ( tab_nil)) Try.func80 (c := bodyOf Try.f80) (by kernel_rfl) (by kernel_rfl) (loops_none (lp := lpNone) (by kernel_rfl)) (av := f80.av) (bl := f80.bl) (inR := f80.inR) (out := (alt f80.o0 f80.o1)) (fuel := 400)
  (by intro s x h; unfold f80.inA at h; split at h <;> simp at h; subst h; rfl) (fun _ => Nat.le_of_ble_eq_true rfl)
  (by intro s y h; unfold f80.inR at h; split at h <;> simp at h <;> subst h <;> rfl) (dvA_ok (fun _ _ _ => rfl) (fun _ _ _ => rfl)) (fun _ => by kernel_rfl)
end Go.Proofs

namespace Go.Proofs
open Go.VM
abbrev f81.Ty0 := Nat × Nat × List Int
def f81.T (_K : Nat) (a0 : Nat) (m0_0 : Nat) (m0_1 : List Int) : Option (f81.Ty0) :=
  let v1 := ((a0 : Nat) : Int)
  let v2 := ((a0 : Nat) : Int)
  bif (((decide (0 ≤ v2 ∧ v2 ≤ ((a0 : Nat) : Int)) && (decide (0 ≤ v1 ∧ v1 ≤ ((Int.toNat v2 : Nat) : Int)))) && true) && (Nat.ble (0 + a0) m0_0)) then
    some ((Int.toNat v1), m0_0, m0_1)
  else
    none
def f81.F (K : Nat) (x : f81.Ty0) : Option (f81.Ty0) := f81.T K x.1 x.2.1 x.2.2
def f81.av (x : f81.Ty0) : List VV := [.vec 0 0 x.1 1]
def f81.bl (x : f81.Ty0) : List (Nat × Blk) := [(0, ([.ints .u8 x.2.1 x.2.2], 5, .vec 1))]
def f81.inA : VS → Option (f81.Ty0)
  | ⟨[(0, .vec 0 0 a0 1)], [(0, ([.ints .u8 m0_0 m0_1], 5, .vec 1))], 2⟩ => some (a0, m0_0, m0_1)
  | _ => none
def f81.o0 (y : f81.Ty0) : VS := ⟨[(0, .vw false 0 0 y.1 2)], [(0, ([.ints .u8 y.2.1 y.2.2], 5, .vec 1))], 3⟩
def f81.inR : VS → Option (f81.Ty0)
  | ⟨[(0, .vw false 0 0 y 2)], [(0, ([.ints .u8 z0_0 z0_1], 5, .vec 1))], 3⟩ => some (y, z0_0, z0_1)
  | _ => none
noncomputable def f81.E (K : Nat) : Entry := genE 2 f81.inA (f81.F K) (dv1 f81.o0)
theorem f81.ok (K : Nat) : EntryOK Try.prog 81 (f81.E K) := gen_ok mix tys_ok (tab_ok ( tab_nil)) Try.func81 (c := bodyOf Try.f81) (by kernel_rfl) (by kernel_rfl) (loops_none (lp := lpNone) (by kernel_rfl)) (av := f81.av) (bl := f81.bl) (inR := f81.inR) (out := f81.o0) (fuel := 400)
  (by intro s x h; unfold f81.inA at h; split at h <;> simp at h; subst h; rfl) (fun _ => Nat.le_of_ble_eq_true rfl)
  (by intro s y h; unfold f81.inR at h; split at h <;> simp at h <;> subst h <;> rfl) (fun _ _ _ => rfl) (fun _ => by kernel_rfl)
end Go.Proofs

namespace Go.Proofs
open Go.VM
abbrev f69.Ty0 := Nat × Nat × List Int × Nat × List Int × Nat × List Int
abbrev f69.Ty1 := Nat × Nat × Nat × List Int × Nat × List Int
def f69.T (K : Nat) (a0 : Nat) (a1 : Nat) (m0_0 : Nat) (m0_1 : List Int) (m2_0 : Nat) (m2_1 : List Int) : Option (f69.Ty0) :=
  bif ((Nat.ble (0 + a0) m0_0 && true) && true) then
    (f63.F K (a0, 4, 1, a0, (subI m0_1 0 a0), 1, [(IntKind.wrap .u64 ((a1 : Nat) : Int))])).bind fun y3 =>
    (f80.F K (y3.1, y3.2.1, ((a1 : Nat) : Int), y3.2.2.2.2.2.2.1, y3.2.2.2.2.2.2.2)).bind fun y5 =>
    alt (fun y6 =>
      bif ((Nat.ble (0 + a1) m2_0 && (Nat.ble y6.1 y6.2.1)) && (fitB ((y6.1 + a1) * 1))) then
        (f81.F K ((y6.1 + a1), (y6.1 + a1), ((padT y6.2.2 y6.1) ++ (padT (subI m2_1 0 a1) a1)))).bind fun y9 =>
        some (y9.1, m0_0, m0_1, m2_0, m2_1, y9.2.1, y9.2.2)
      else
        none) (fun y7 =>
      bif (((Nat.ble (0 + a1) m2_0 && (Nat.ble y7.1 y7.2.2.1)) && (Nat.ble y7.2.1 y7.2.2.1)) && (fitB ((y7.1 + a1) * 1))) then
        (f81.F K ((y7.1 + a1), (y7.1 + a1), ((padT y7.2.2.2 y7.1) ++ (padT (subI m2_1 0 a1) a1)))).bind fun y11 =>
        some (y11.1, m0_0, m0_1, m2_0, m2_1, y11.2.1, y11.2.2)
      else
        none) y5
  else
    none
def f69.F (K : Nat) (x : f69.Ty1) : Option (f69.Ty0) := f69.T K x.1 x.2.1 x.2.2.1 x.2.2.2.1 x.2.2.2.2.1 x.2.2.2.2.2
def f69.av (x : f69.Ty1) : List VV := [.vw true 0 0 x.1 1, .vw true 2 0 x.2.1 3]
def f69.bl (x : f69.Ty1) : List (Nat × Blk) := [(0, ([.ints .u8 x.2.2.1 x.2.2.2.1], 0, .ro)), (2, ([.ints .u8 x.2.2.2.2.1 x.2.2.2.2.2], 0, .ro))]
def f69.inA : VS → Option (f69.Ty1)
  | ⟨[(0, .vw true 0 0 a0 1), (1, .vw true 2 0 a1 3)], [(0, ([.ints .u8 m0_0 m0_1], 0, .ro)), (2, ([.ints .u8 m2_0 m2_1], 0, .ro))], 4⟩ => some (a0, a1, m0_0, m0_1, m2_0, m2_1)
  | _ => none
def f69.o0 (y : f69.Ty0) : VS := ⟨[(0, .vw false 4 0 y.1 5)], [(0, ([.ints .u8 y.2.1 y.2.2.1], 0, .ro)), (2, ([.ints .u8 y.2.2.2.1 y.2.2.2.2.1], 0, .ro)), (4, ([.ints .u8 y.2.2.2.2.2.1 y.2.2.2.2.2.2], 5, .vec 6))], 7⟩
def f69.inR : VS → Option (f69.Ty0)
  | ⟨[(0, .vw false 4 0 y 5)], [(0, ([.ints .u8 z0_0 z0_1], 0, .ro)), (2, ([.ints .u8 z2_0 z2_1], 0, .ro)), (4, ([.ints .u8 z4_0 z4_1], 5, .vec 6))], 7⟩ => some (y, z0_0, z0_1, z2_0, z2_1, z4_0, z4_1)
  | _ => none
noncomputable def f69.E (K : Nat) : Entry := genE 4 f69.inA (f69.F K) (dv1 f69.o0)
theorem f69.ok (K : Nat) : EntryOK Try.prog 69 (f69.E K) := gen_ok mix tys_ok (sp := tabSp [(63, (viewE [(0, .u8), (2, .u64)] (f63.E K))), (80, (f80.E K)), (81, (f81.E K))]) (tab_ok ((tab_cons (view_ok (f63.ok K)) (tab_cons (f80.ok K) (tab_cons (f81.ok K) tab_nil))))) Try.func69 (c := bodyOf Try.f69) (by kernel_rfl) (by kernel_rfl) (loops_none (lp := lpNone) (by kernel_rfl)) (av := f69.av) (bl := f69.bl) (inR := f69.inR) (out := f69.o0) (fuel := 400)
  (by intro s x h; unfold f69.inA at h; split at h <;> simp at h; subst h; rfl) (fun _ => Nat.le_of_ble_eq_true rfl)
  (by intro s y h; unfold f69.inR at h; split at h <;> simp at h <;> subst h <;> rfl) (fun _ _ _ => rfl) (fun _ => by kernel_rfl)
end Go.Proofs

namespace Go.Proofs
open Go.VM
abbrev f16v2.Ty0 := List Int × List Int × Int × Int
abbrev f16v2.Ty1 := List Int × Int × Int × List Int
def f16v2.T (K : Nat) (m0_0 : List Int) (m0_1 : Int) (m0_2 : Int) (m1 : List Int) : Option (f16v2.Ty0) :=
  let v2 := Int.tmod (IntKind.wrap .i64 (119 - m0_1)) 64
  bif lenOK v2 v2 1 then
    let v3 := Int.toNat v2
    (f41.F K (0, (IntKind.wrap .u64 (8 * m0_2)), 8, 0, [])).bind fun y7 =>
    bif ((Nat.ble (0 + v3) (Int.toNat v2) && (Nat.ble v3 (Int.toNat v2))) && ((Nat.ble (0 + y7.1) y7.2.2.2.2.1 && (Nat.ble y7.1 y7.2.1)) && true)) then
      (f40v1.F K (m0_0, m0_1, m0_2, 1, v3, y7.1, m1, 1, [128], v3, (subI [] 0 v3), y7.1, (subI y7.2.2.2.2.2 0 y7.1))).bind fun y8 =>
      (f41.F K (0, (IntKind.wrap .u64 (List.getD y8.2.2.2.2.2.2.2.2.2.2.2.2 0 0)), 4, 0, [])).bind fun y11 =>
      bif ((Nat.ble (0 + y11.1) y11.2.2.2.2.1 && (Nat.ble y11.1 y11.2.1)) && true) then
        (f41.F K (y11.1, (IntKind.wrap .u64 (List.getD y8.2.2.2.2.2.2.2.2.2.2.2.2 1 0)), 4, y11.1, (subI y11.2.2.2.2.2 0 y11.1))).bind fun y14 =>
        bif ((Nat.ble (0 + y14.1) y14.2.2.2.2.1 && (Nat.ble y14.1 y14.2.1)) && true) then
          (f41.F K (y14.1, (IntKind.wrap .u64 (List.getD y8.2.2.2.2.2.2.2.2.2.2.2.2 2 0)), 4, y14.1, (subI y14.2.2.2.2.2 0 y14.1))).bind fun y17 =>
          bif ((Nat.ble (0 + y17.1) y17.2.2.2.2.1 && (Nat.ble y17.1 y17.2.1)) && true) then
            (f41.F K (y17.1, (IntKind.wrap .u64 (List.getD y8.2.2.2.2.2.2.2.2.2.2.2.2 3 0)), 4, y17.1, (subI y17.2.2.2.2.2 0 y17.1))).bind fun y20 =>
            bif ((Nat.ble (0 + y20.1) y20.2.2.2.2.1 && (Nat.ble y20.1 y20.2.1)) && true) then
              (f41.F K (y20.1, (IntKind.wrap .u64 (List.getD y8.2.2.2.2.2.2.2.2.2.2.2.2 4 0)), 4, y20.1, (subI y20.2.2.2.2.2 0 y20.1))).bind fun y23 =>
              bif ((Nat.ble (0 + y23.1) y23.2.2.2.2.1 && (Nat.ble y23.1 y23.2.1)) && true) then
                (f41.F K (y23.1, (IntKind.wrap .u64 (List.getD y8.2.2.2.2.2.2.2.2.2.2.2.2 5 0)), 4, y23.1, (subI y23.2.2.2.2.2 0 y23.1))).bind fun y26 =>
                bif ((Nat.ble (0 + y26.1) y26.2.2.2.2.1 && (Nat.ble y26.1 y26.2.1)) && true) then
                  (f41.F K (y26.1, (IntKind.wrap .u64 (List.getD y8.2.2.2.2.2.2.2.2.2.2.2.2 6 0)), 4, y26.1, (subI y26.2.2.2.2.2 0 y26.1))).bind fun y29 =>
                  bif ((Nat.ble (0 + y29.1) y29.2.2.2.2.1 && (Nat.ble y29.1 y29.2.1)) && true) then
                    (f41.F K (y29.1, (IntKind.wrap .u64 (List.getD y8.2.2.2.2.2.2.2.2.2.2.2.2 7 0)), 4, y29.1, (subI y29.2.2.2.2.2 0 y29.1))).bind fun y32 =>
                    bif ((Nat.ble (0 + y32.1) y32.2.2.2.2.1 && true) && (Nat.beq y32.1 y32.1)) then
                      some ((spl [0, 0, 0, 0, 0, 0, 0, 0, 0, 0, 0, 0, 0, 0, 0, 0, 0, 0, 0, 0, 0, 0, 0, 0, 0, 0, 0, 0, 0, 0, 0, 0] 0 (Nat.min y32.1 32) (subI y32.2.2.2.2.2 0 y32.1)), m0_0, m0_1, m0_2)
                    else
                      none
                  else
                    none
                else
                  none
              else
                none
            else
              none
          else
            none
        else
          none
      else
        none
    else
      none
  else
    none
def f16v2.F (K : Nat) (x : f16v2.Ty1) : Option (f16v2.Ty0) := f16v2.T K x.1 x.2.1 x.2.2.1 x.2.2.2
def f16v2.av (_x : f16v2.Ty1) : List VV := [.ptr 0 0]
def f16v2.bl (x : f16v2.Ty1) : List (Nat × Blk) := [(0, ([.ptr 1 0, .ints .u8 64 x.1, .int .i64 x.2.1, .int .u64 x.2.2.1], 30, .norm)), (1, ([.ints .u32 8 x.2.2.2], 110, .norm))]
def f16v2.inA : VS → Option (f16v2.Ty1)
  | ⟨[(0, .ptr 0 0)], [(0, ([.ptr 1 0, .ints .u8 64 m0_0, .int .i64 m0_1, .int .u64 m0_2], 30, .norm)), (1, ([.ints .u32 8 m1], 110, .norm))], 2⟩ => some (m0_0, m0_1, m0_2, m1)
  | _ => none
def f16v2.o0 (y : f16v2.Ty0) : VS := ⟨[(0, .agg [.ints .u8 32 y.1])], [(0, ([.ptr 1 0, .ints .u8 64 y.2.1, .int .i64 y.2.2.1, .int .u64 y.2.2.2], 30, .norm)), (1, ([], 110, .dead))], 2⟩
def f16v2.inR : VS → Option (f16v2.Ty0)
  | ⟨[(0, .agg [.ints .u8 32 y])], [(0, ([.ptr 1 0, .ints .u8 64 z0_0, .int .i64 z0_1, .int .u64 z0_2], 30, .norm)), (1, ([], 110, .dead))], 2⟩ => some (y, z0_0, z0_1, z0_2)
  | _ => none
noncomputable def f16v2.E (K : Nat) : Entry := genE 2 f16v2.inA (f16v2.F K) (dv1 f16v2.o0)
theorem f16v2.ok (K : Nat) : EntryOK Try.prog 16 (f16v2.E K) := gen_ok mix tys_ok (sp := tabSp [(41, (viewE [(0, .u8)] (f41.E K))), (40, (rowsE 1 .u8 (f40v1.E K)))]) (tab_ok ((tab_cons (view_ok (f41.ok K)) (tab_cons (rows_ok (f40v1.ok K)) tab_nil)))) Try.func16 (c := bodyOf Try.f16) (by kernel_rfl) (by kernel_rfl) (loops_none (lp := lpNone) (by kernel_rfl)) (av := f16v2.av) (bl := f16v2.bl) (inR := f16v2.inR) (out := f16v2.o0) (fuel := 400)
  (by intro s x h; unfold f16v2.inA at h; split at h <;> simp at h; subst h; rfl) (fun _ => Nat.le_of_ble_eq_true rfl)
  (by intro s y h; unfold f16v2.inR at h; split at h <;> simp at h <;> subst h <;> rfl) (fun _ _ _ => rfl) (fun _ => by kernel_rfl)
end Go.Proofs

namespace Go.Proofs
open Go.VM
abbrev f50.Ty0 := ByteArray × Nat × Nat × Nat × Nat × Nat × List Int × Nat × List Int × Nat × List Int × Nat × List Int
abbrev f50.Ty1 := List Int × Nat × Nat × Nat × Nat × Nat × List Int × Nat × List Int × Nat × List Int × Nat × List Int
def f50.T (K : Nat) (a0 : ByteArray) (m0_0 : Nat) (m0_1 : Nat) (m0_2 : Nat) (m0_3 : Nat) (m2_0 : Nat) (m2_1 : List Int) (m4_0 : Nat) (m4_1 : List Int) (m6_0 : Nat) (m6_1 : List Int) (m8_0 : Nat) (m8_1 : List Int) : Option (f50.Ty1) :=
  (f42.F K ()).bind fun y1 =>
  let v2 := ByteArray.size a0
  bif ((Nat.ble (0 + v2) (ByteArray.size a0) && true) && true) then
    (f69.F K (0, v2, 0, [], v2, (subI (strL a0) 0 v2))).bind fun y4 =>
    (f41.F K (0, 4, 4, 0, [])).bind fun y5 =>
    bif ((Nat.ble (0 + y4.1) y4.2.2.2.2.2.1 && true) && ((Nat.ble (0 + y5.1) y5.2.2.2.2.1 && (Nat.ble y5.1 y5.2.1)) && true)) then
      (f40v2.F K (y1.1, y1.2.1, y1.2.2.1, y4.1, y5.1, y1.2.2.2, y4.1, (subI y4.2.2.2.2.2.2 0 y4.1), y5.1, (subI y5.2.2.2.2.2 0 y5.1))).bind fun y6 =>
      bif ((Nat.ble (0 + m0_0) m2_0 && true) && true) then
        (f69.F K (0, m0_0, 0, [], m0_0, (subI m2_1 0 m0_0))).bind fun y7 =>
        bif ((Nat.ble (0 + y7.1) y7.2.2.2.2.2.1 && true) && true) then
          (f40.F K (y6.1, y6.2.1, y6.2.2.1, y7.1, y6.2.2.2.2.2.2.2.2.2, y7.1, (subI y7.2.2.2.2.2.2 0 y7.1))).bind fun y8 =>
          bif ((Nat.ble (0 + m0_1) m4_0 && true) && true) then
            (f69.F K (0, m0_1, 0, [], m0_1, (subI m4_1 0 m0_1))).bind fun y9 =>
            bif ((Nat.ble (0 + y9.1) y9.2.2.2.2.2.1 && true) && true) then
              (f40.F K (y8.1, y8.2.1, y8.2.2.1, y9.1, y8.2.2.2.2.2.2, y9.1, (subI y9.2.2.2.2.2.2 0 y9.1))).bind fun y10 =>
              bif ((Nat.ble (0 + m0_2) m6_0 && true) && true) then
                (f69.F K (0, m0_2, 0, [], m0_2, (subI m6_1 0 m0_2))).bind fun y11 =>
                bif ((Nat.ble (0 + y11.1) y11.2.2.2.2.2.1 && true) && true) then
                  (f40.F K (y10.1, y10.2.1, y10.2.2.1, y11.1, y10.2.2.2.2.2.2, y11.1, (subI y11.2.2.2.2.2.2 0 y11.1))).bind fun y12 =>
                  bif ((Nat.ble (0 + m0_3) m8_0 && true) && true) then
                    (f69.F K (0, m0_3, 0, [], m0_3, (subI m8_1 0 m0_3))).bind fun y13 =>
                    bif ((Nat.ble (0 + y13.1) y13.2.2.2.2.2.1 && true) && true) then
                      (f40.F K (y12.1, y12.2.1, y12.2.2.1, y13.1, y12.2.2.2.2.2.2, y13.1, (subI y13.2.2.2.2.2.2 0 y13.1))).bind fun y14 =>
                      (f16v2.F K (y14.1, y14.2.1, y14.2.2.1, y14.2.2.2.2.2.2)).bind fun y15 =>
                      some (y15.1, m0_0, m0_1, m0_2, m0_3, m2_0, m2_1, m4_0, m4_1, m6_0, m6_1, m8_0, m8_1)
                    else
                      none
                  else
                    none
                else
                  none
              else
                none
            else
              none
          else
            none
        else
          none
      else
        none
    else
      none
  else
    none
def f50.F (K : Nat) (x : f50.Ty0) : Option (f50.Ty1) := f50.T K x.1 x.2.1 x.2.2.1 x.2.2.2.1 x.2.2.2.2.1 x.2.2.2.2.2.1 x.2.2.2.2.2.2.1 x.2.2.2.2.2.2.2.1 x.2.2.2.2.2.2.2.2.1 x.2.2.2.2.2.2.2.2.2.1 x.2.2.2.2.2.2.2.2.2.2.1 x.2.2.2.2.2.2.2.2.2.2.2.1 x.2.2.2.2.2.2.2.2.2.2.2.2
def f50.av (x : f50.Ty0) : List VV := [.str x.1, .vw true 0 0 4 1]
def f50.bl (x : f50.Ty0) : List (Nat × Blk) := [(0, ([.vw true 2 0 x.2.1 3, .vw true 4 0 x.2.2.1 5, .vw true 6 0 x.2.2.2.1 7, .vw true 8 0 x.2.2.2.2.1 9], 0, .ro)), (2, ([.ints .u8 x.2.2.2.2.2.1 x.2.2.2.2.2.2.1], 0, .ro)), (4, ([.ints .u8 x.2.2.2.2.2.2.2.1 x.2.2.2.2.2.2.2.2.1], 0, .ro)), (6, ([.ints .u8 x.2.2.2.2.2.2.2.2.2.1 x.2.2.2.2.2.2.2.2.2.2.1], 0, .ro)), (8, ([.ints .u8 x.2.2.2.2.2.2.2.2.2.2.2.1 x.2.2.2.2.2.2.2.2.2.2.2.2], 0, .ro))]
def f50.inA : VS → Option (f50.Ty0)
  | ⟨[(0, .str a0), (1, .vw true 0 0 4 1)], [(0, ([.vw true 2 0 m0_0 3, .vw true 4 0 m0_1 5, .vw true 6 0 m0_2 7, .vw true 8 0 m0_3 9], 0, .ro)), (2, ([.ints .u8 m2_0 m2_1], 0, .ro)), (4, ([.ints .u8 m4_0 m4_1], 0, .ro)), (6, ([.ints .u8 m6_0 m6_1], 0, .ro)), (8, ([.ints .u8 m8_0 m8_1], 0, .ro))], 10⟩ => some (a0, m0_0, m0_1, m0_2, m0_3, m2_0, m2_1, m4_0, m4_1, m6_0, m6_1, m8_0, m8_1)
  | _ => none
def f50.o0 (y : f50.Ty1) : VS := ⟨[(0, .agg [.ints .u8 32 y.1])], [(0, ([.vw true 2 0 y.2.1 3, .vw true 4 0 y.2.2.1 5, .vw true 6 0 y.2.2.2.1 7, .vw true 8 0 y.2.2.2.2.1 9], 0, .ro)), (2, ([.ints .u8 y.2.2.2.2.2.1 y.2.2.2.2.2.2.1], 0, .ro)), (4, ([.ints .u8 y.2.2.2.2.2.2.2.1 y.2.2.2.2.2.2.2.2.1], 0, .ro)), (6, ([.ints .u8 y.2.2.2.2.2.2.2.2.2.1 y.2.2.2.2.2.2.2.2.2.2.1], 0, .ro)), (8, ([.ints .u8 y.2.2.2.2.2.2.2.2.2.2.2.1 y.2.2.2.2.2.2.2.2.2.2.2.2], 0, .ro))], 10⟩
def f50.inR : VS → Option (f50.Ty1)
  | ⟨[(0, .agg [.ints .u8 32 y])], [(0, ([.vw true 2 0 z0_0 3, .vw true 4 0 z0_1 5, .vw true 6 0 z0_2 7, .vw true 8 0 z0_3 9], 0, .ro)), (2, ([.ints .u8 z2_0 z2_1], 0, .ro)), (4, ([.ints .u8 z4_0 z4_1], 0, .ro)), (6, ([.ints .u8 z6_0 z6_1], 0, .ro)), (8, ([.ints .u8 z8_0 z8_1], 0, .ro))], 10⟩ => some (y, z0_0, z0_1, z0_2, z0_3, z2_0, z2_1, z4_0, z4_1, z6_0, z6_1, z8_0, z8_1)
  | _ => none
noncomputable def f50.E (K : Nat) : Entry := genE 10 f50.inA (f50.F K) (dv1 f50.o0)
theorem f50.ok (K : Nat) : EntryOK Try.prog 50 (f50.E K) := gen_ok mix tys_ok (sp := tabSp [(42, (f42.E K)), (69, (viewE [(0, .u8), (1, .u8)] (f69.E K))), (41, (viewE [(0, .u8)] (f41.E K))), (40, (orF (fitR 1 .u8 (fitE 8 f40v2.inA)) (rowsE 1 .u8 (f40v2.E K)) (rowsE 1 .u8 (f40.E K)))), (16, (f16v2.E K))]) (tab_ok ((tab_cons (f42.ok K) (tab_cons (view_ok (f69.ok K)) (tab_cons (view_ok (f41.ok K)) (tab_cons (orF_ok (rows_ok (f40v2.ok K)) (rows_ok (f40.ok K))) (tab_cons (f16v2.ok K) tab_nil))))))) Try.func50 (c := bodyOf Try.f50) (by kernel_rfl) (by kernel_rfl) (loops_none (lp := lpNone) (by kernel_rfl)) (av := f50.av) (bl := f50.bl) (inR := f50.inR) (out := f50.o0) (fuel := 400)
  (by intro s x h; unfold f50.inA at h; split at h <;> simp at h; subst h; rfl) (fun _ => Nat.le_of_ble_eq_true rfl)
  (by intro s y h; unfold f50.inR at h; split at h <;> simp at h <;> subst h <;> rfl) (fun _ _ _ => rfl) (fun _ => by kernel_rfl)
end Go.Proofs

namespace Go.Proofs
open Go.VM
def Sh.frame (p : List Int) : List Int := be 4 p.length ++ p
theorem strL_length (s : ByteArray) : (strL s).length = s.size := by simp [strL]
theorem strL_octets (s : ByteArray) : octets (strL s) := by
  intro x hx
  simp only [strL, List.mem_map] at hx
  obtain ⟨b, _, rfl⟩ := hx
  have := b.toNat_lt
  omega
theorem frame_octets {p : List Int} (h : octets p) : octets (Sh.frame p) := octets_append (be_octets _ _) h
theorem frame_length (p : List Int) : (Sh.frame p).length = 4 + p.length := by rw [Sh.frame, List.length_append, be_length]
theorem f81.spec (K n : Nat) (l : List Int) : f81.F K (n, n, l) = some (n, n, l) := by
  simp only [f81.F, f81.T, Int.toNat_natCast]
  rw [decide_eq_true (show (0 : Int) ≤ (n : Int) ∧ (n : Int) ≤ (n : Int) by omega), Bool.and_self, Bool.and_self, Nat.zero_add, ble_true (Nat.le_refl n), Bool.and_self, cond_t]
theorem f80.spec (K a n : Nat) (l : List Int) (hl : l.length = a) (hs : a + n ≤ 100000000000000) : f80.F K (a, a, (n : Int), a, l) = some (if n = 0 then .inr (a, a, a, l) else .inl (a, a + n, l ++ padT [] n)) := by
  have e : IntKind.wrap .i64 ((n : Int) - (IntKind.wrap .i64 (((a : Nat) : Int) - ((a : Nat) : Int)))) = (n : Int) := by
    rw [show ((a : Nat) : Int) - ((a : Nat) : Int) = 0 by omega, wrap_i 0 (by omega) (by omega), wrap_i _ (by omega) (by omega)]; omega
  simp only [f80.F, f80.T, e, Int.toNat_natCast]
  rw [decide_eq_false (show ¬ (n : Int) < 0 by omega), cond_f]
  rcases Nat.eq_zero_or_pos n with h | h
  · subst h
    rw [decide_eq_false (show ¬ (((0 : Nat) : Int) > 0) by omega), cond_f, if_pos rfl]
  · rw [decide_eq_true (show ((n : Int) > 0) by omega), cond_t, decide_eq_true (show (0 : Int) ≤ (a : Int) ∧ (a : Int) ≤ (a : Int) by omega), Bool.and_self, cond_t, decide_eq_true (show (0 : Int) ≤ (n : Int) by omega), fitB_true (by omega), ble_true (Nat.le_refl a), fitB_true (by omega), Bool.and_self, Bool.and_self, Bool.and_self, Bool.and_self, cond_t,
      decide_eq_true (show (0 : Int) ≤ (a : Int) ∧ (a : Int) ≤ ((a + n : Nat) : Int) by omega), Nat.zero_add, ble_true (Nat.le_refl _), Bool.and_self, cond_t, if_neg (by omega), padT_self l hl]
theorem f69.spec (K a n : Nat) (l p : List Int) (hl : l.length = a) (hp : p.length = n) (hn : n ≤ 1000000000000) (ha : a ≤ 1000000000) :
    f69.F K (a, n, a, l, n, p) = some (a + 4 + n, a, l, n, p, a + 4 + n, l ++ Sh.frame p) := by
  have h0 : IntKind.wrap .u64 ((n : Nat) : Int) = (n : Int) := wrap_u _ (by omega) (by omega)
  have e2 := f63.spec K a 4 1 l [n] hl rfl (by intro x hx; simp only [List.mem_singleton] at hx; omega) (by omega) (by omega) (by omega)
  simp only [List.map_cons, List.map_nil, List.flatMap_cons, List.flatMap_nil, List.append_nil, Nat.mul_one] at e2
  have hl4 : (l ++ be 4 n).length = a + 4 := by rw [List.length_append, be_length, hl]
  simp only [f69.F, f69.T]
  rw [Nat.zero_add, ble_true (Nat.le_refl a), Bool.and_self, Bool.and_self, cond_t, subI_self l hl, h0, show ((4 : Int)) = ((4 : Nat) : Int) from rfl, e2, bind_s]
  simp only []
  rw [f80.spec K (a + 4) n _ hl4 (by omega), bind_s]
  rcases Nat.eq_zero_or_pos n with h | h
  · rw [if_pos h, altr]
    simp only []
    rw [Nat.zero_add, ble_true (Nat.le_refl n), ble_true (Nat.le_refl (a + 4)), fitB_true (by omega), Bool.and_self, Bool.and_self, Bool.and_self, cond_t, f81.spec, bind_s, padT_self _ hl4, subI_self p hp, padT_self p hp, Sh.frame, hp, List.append_assoc]
  · rw [if_neg (by omega), altl]
    simp only []
    have e : padT (l ++ be 4 n ++ padT [] n) (a + 4) = l ++ be 4 n := by
      rw [padT_take _ _ (by rw [List.length_append, hl4]; omega), List.take_append_of_le_length (by omega), List.take_of_length_le (by omega)]
    rw [Nat.zero_add, ble_true (Nat.le_refl n), ble_true (show a + 4 ≤ a + 4 + n by omega), fitB_true (by omega), Bool.and_self, Bool.and_self, cond_t, f81.spec, bind_s, e, subI_self p hp, padT_self p hp, Sh.frame, hp, List.append_assoc]
def Sh.padded (m : List Int) : List Int := m ++ [128] ++ List.replicate ((119 - m.length % 64) % 64) 0 ++ be 8 (8 * m.length)
def Sh.digest (s : List Int) : List Int := (List.range 8).flatMap fun i => be 4 (IntKind.wrap .u64 (s.getD i 0)).toNat
def Sh.sum (m : List Int) : List Int := Sh.digest (Sh.chain (Sh.padded m) ((Sh.padded m).length / 64))
theorem digest_length (s : List Int) : (Sh.digest s).length = 32 := by
  simp [Sh.digest, List.range, List.range.loop, be_length]
theorem digest_octets (s : List Int) : octets (Sh.digest s) := by
  intro x hx
  simp only [Sh.digest, List.mem_flatMap] at hx
  obtain ⟨i, _, h⟩ := hx
  exact be_octets _ _ x h
theorem wrap_pos (z : Int) : IntKind.wrap .u64 z = ((IntKind.wrap .u64 z).toNat : Int) ∧ (IntKind.wrap .u64 z).toNat < 18446744073709551616 := by
  simp only [IntKind.wrap, IntKind.signed, IntKind.bits]
  simp
  omega
theorem sub_zero (l : List Int) (n : Nat) (h : l = []) : subI l 0 n = List.replicate n 0 := by
  subst h
  refine List.ext_getElem? fun i => ?_
  by_cases hi : i < n
  · simp [subI, hi]
  · rw [List.getElem?_eq_none (by simpa [subI] using hi), List.getElem?_eq_none (by simpa using hi)]
theorem f16v2.spec (K : Nat) (m b s : List Int) (h : Int) (R : Sh.Rep m b h s) (hK : 200 < K) :
    f16v2.F K (b, h, ((m.length % 18446744073709551616 : Nat) : Int), s) = some (Sh.sum m, b, h, ((m.length % 18446744073709551616 : Nat) : Int)) := by
  have hr : m.length % 64 < 64 := Nat.mod_lt _ (by decide)
  have e2 : Int.tmod (IntKind.wrap .i64 (119 - ((m.length % 64 : Nat) : Int))) 64 = (((119 - m.length % 64) % 64 : Nat) : Int) := by
    rw [wrap_i _ (by omega) (by omega), show (119 : Int) - ((m.length % 64 : Nat) : Int) = ((119 - m.length % 64 : Nat) : Int) by omega]
    exact tmod_nat _ 64
  have e8 : IntKind.wrap .u64 (8 * ((m.length % 18446744073709551616 : Nat) : Int)) = ((8 * m.length % 18446744073709551616 : Nat) : Int) := by
    rw [show (8 : Int) * ((m.length % 18446744073709551616 : Nat) : Int) = ((8 * (m.length % 18446744073709551616) : Nat) : Int) by omega, wrap_nat]
    congr 1
    omega
  simp only [f16v2.F, f16v2.T]
  rw [R.held, e2]
  generalize hp : (119 - m.length % 64) % 64 = p
  have hp64 : p < 64 := by omega
  have el : lenOK (p : Int) (p : Int) 1 = true := by
    simp only [lenOK, Int.toNat_natCast]
    rw [decide_eq_true (show (0 : Int) ≤ (p : Int) ∧ (p : Int) ≤ (p : Int) by omega), fitB_true (by omega), fitB_true (by omega)]; rfl
  have e1 := f41.spec K 0 8 (8 * m.length % 18446744073709551616) [] rfl (Nat.mod_lt _ (by decide)) (by omega) (by omega)
  rw [List.nil_append, show (18446744073709551616 : Nat) = 256 ^ 8 from rfl, be_mod, ← show (18446744073709551616 : Nat) = 256 ^ 8 from rfl, Nat.zero_add] at e1
  rw [el, cond_t, e8]
  simp only [Int.toNat_natCast]
  rw [show ((8 : Int)) = ((8 : Nat) : Int) from rfl, e1, bind_s]
  simp only []
  rw [Nat.zero_add, ble_true (Nat.le_refl p), ble_true (Nat.le_refl 8), Bool.and_self, Bool.and_self, Bool.and_self, cond_t, sub_zero [] p rfl, subI_self (be 8 (8 * m.length)) (be_length _ _)]
  obtain ⟨b', h', s', e3, R'⟩ := f40v1.spec K m 1 [128] p (List.replicate p 0) 8 (be 8 (8 * m.length)) rfl (by intro x hx; simp only [List.mem_singleton] at hx; omega) (by omega) (by simp) (octets_zeros _) (by omega) (be_length _ _) (be_octets _ _) (by omega) b s _ R (by omega)
  rw [R.held] at e3
  have hz : (m ++ [128] ++ List.replicate p 0 ++ be 8 (8 * m.length)) = Sh.padded m := by rw [Sh.padded, hp]
  rw [hz] at e3 R'
  rw [e3, bind_s]
  simp only []
  have hsum : Sh.digest s' = Sh.sum m := by rw [Sh.sum, ← R'.st]
  obtain ⟨x0, g0, t0⟩ : ∃ x : Nat, IntKind.wrap .u64 (List.getD s' 0 0) = (x : Int) ∧ x < 18446744073709551616 := ⟨_, wrap_pos _⟩
  obtain ⟨x1, g1, t1⟩ : ∃ x : Nat, IntKind.wrap .u64 (List.getD s' 1 0) = (x : Int) ∧ x < 18446744073709551616 := ⟨_, wrap_pos _⟩
  obtain ⟨x2, g2, t2⟩ : ∃ x : Nat, IntKind.wrap .u64 (List.getD s' 2 0) = (x : Int) ∧ x < 18446744073709551616 := ⟨_, wrap_pos _⟩
  obtain ⟨x3, g3, t3⟩ : ∃ x : Nat, IntKind.wrap .u64 (List.getD s' 3 0) = (x : Int) ∧ x < 18446744073709551616 := ⟨_, wrap_pos _⟩
  obtain ⟨x4, g4, t4⟩ : ∃ x : Nat, IntKind.wrap .u64 (List.getD s' 4 0) = (x : Int) ∧ x < 18446744073709551616 := ⟨_, wrap_pos _⟩
  obtain ⟨x5, g5, t5⟩ : ∃ x : Nat, IntKind.wrap .u64 (List.getD s' 5 0) = (x : Int) ∧ x < 18446744073709551616 := ⟨_, wrap_pos _⟩
  obtain ⟨x6, g6, t6⟩ : ∃ x : Nat, IntKind.wrap .u64 (List.getD s' 6 0) = (x : Int) ∧ x < 18446744073709551616 := ⟨_, wrap_pos _⟩
  obtain ⟨x7, g7, t7⟩ : ∃ x : Nat, IntKind.wrap .u64 (List.getD s' 7 0) = (x : Int) ∧ x < 18446744073709551616 := ⟨_, wrap_pos _⟩
  have hd : Sh.digest s' = []  ++ be 4 x0 ++ be 4 x1 ++ be 4 x2 ++ be 4 x3 ++ be 4 x4 ++ be 4 x5 ++ be 4 x6 ++ be 4 x7 := by
    simp only [Sh.digest, List.range, List.range.loop, List.flatMap_cons, List.flatMap_nil, List.append_nil, List.nil_append, g0, g1, g2, g3, g4, g5, g6, g7, Int.toNat_natCast, List.append_assoc]
  rw [hsum] at hd
  have p0 : f41.F K (0, (x0 : Int), ((4 : Nat) : Int), 0, []) = some (4, 4, 0, [], 4, [] ++ be 4 x0) := f41.spec K 0 4 x0 ([]) (by simp [be_length]) t0 (by omega) (by omega)
  rw [g0, show ((4 : Int)) = ((4 : Nat) : Int) from rfl, p0, bind_s]
  simp only []
  rw [Nat.zero_add, ble_true (Nat.le_refl 4), Bool.and_self, Bool.and_self, cond_t]
  have p1 : f41.F K (4, (x1 : Int), ((4 : Nat) : Int), 4, [] ++ be 4 x0) = some (8, 8, 4, [] ++ be 4 x0, 8, [] ++ be 4 x0 ++ be 4 x1) := f41.spec K 4 4 x1 ([] ++ be 4 x0) (by simp [be_length]) t1 (by omega) (by omega)
  rw [g1, subI_self ([] ++ be 4 x0) (show _ = 4 by simp [be_length]), p1, bind_s]
  simp only []
  rw [Nat.zero_add, ble_true (Nat.le_refl 8), Bool.and_self, Bool.and_self, cond_t]
  have p2 : f41.F K (8, (x2 : Int), ((4 : Nat) : Int), 8, [] ++ be 4 x0 ++ be 4 x1) = some (12, 12, 8, [] ++ be 4 x0 ++ be 4 x1, 12, [] ++ be 4 x0 ++ be 4 x1 ++ be 4 x2) := f41.spec K 8 4 x2 ([] ++ be 4 x0 ++ be 4 x1) (by simp [be_length]) t2 (by omega) (by omega)
  rw [g2, subI_self ([] ++ be 4 x0 ++ be 4 x1) (show _ = 8 by simp [be_length]), p2, bind_s]
  simp only []
  rw [Nat.zero_add, ble_true (Nat.le_refl 12), Bool.and_self, Bool.and_self, cond_t]
  have p3 : f41.F K (12, (x3 : Int), ((4 : Nat) : Int), 12, [] ++ be 4 x0 ++ be 4 x1 ++ be 4 x2) = some (16, 16, 12, [] ++ be 4 x0 ++ be 4 x1 ++ be 4 x2, 16, [] ++ be 4 x0 ++ be 4 x1 ++ be 4 x2 ++ be 4 x3) := f41.spec K 12 4 x3 ([] ++ be 4 x0 ++ be 4 x1 ++ be 4 x2) (by simp [be_length]) t3 (by omega) (by omega)
  rw [g3, subI_self ([] ++ be 4 x0 ++ be 4 x1 ++ be 4 x2) (show _ = 12 by simp [be_length]), p3, bind_s]
  simp only []
  rw [Nat.zero_add, ble_true (Nat.le_refl 16), Bool.and_self, Bool.and_self, cond_t]
  have p4 : f41.F K (16, (x4 : Int), ((4 : Nat) : Int), 16, [] ++ be 4 x0 ++ be 4 x1 ++ be 4 x2 ++ be 4 x3) = some (20, 20, 16, [] ++ be 4 x0 ++ be 4 x1 ++ be 4 x2 ++ be 4 x3, 20, [] ++ be 4 x0 ++ be 4 x1 ++ be 4 x2 ++ be 4 x3 ++ be 4 x4) := f41.spec K 16 4 x4 ([] ++ be 4 x0 ++ be 4 x1 ++ be 4 x2 ++ be 4 x3) (by simp [be_length]) t4 (by omega) (by omega)
  rw [g4, subI_self ([] ++ be 4 x0 ++ be 4 x1 ++ be 4 x2 ++ be 4 x3) (show _ = 16 by simp [be_length]), p4, bind_s]
  simp only []
  rw [Nat.zero_add, ble_true (Nat.le_refl 20), Bool.and_self, Bool.and_self, cond_t]
  have p5 : f41.F K (20, (x5 : Int), ((4 : Nat) : Int), 20, [] ++ be 4 x0 ++ be 4 x1 ++ be 4 x2 ++ be 4 x3 ++ be 4 x4) = some (24, 24, 20, [] ++ be 4 x0 ++ be 4 x1 ++ be 4 x2 ++ be 4 x3 ++ be 4 x4, 24, [] ++ be 4 x0 ++ be 4 x1 ++ be 4 x2 ++ be 4 x3 ++ be 4 x4 ++ be 4 x5) := f41.spec K 20 4 x5 ([] ++ be 4 x0 ++ be 4 x1 ++ be 4 x2 ++ be 4 x3 ++ be 4 x4) (by simp [be_length]) t5 (by omega) (by omega)
  rw [g5, subI_self ([] ++ be 4 x0 ++ be 4 x1 ++ be 4 x2 ++ be 4 x3 ++ be 4 x4) (show _ = 20 by simp [be_length]), p5, bind_s]
  simp only []
  rw [Nat.zero_add, ble_true (Nat.le_refl 24), Bool.and_self, Bool.and_self, cond_t]
  have p6 : f41.F K (24, (x6 : Int), ((4 : Nat) : Int), 24, [] ++ be 4 x0 ++ be 4 x1 ++ be 4 x2 ++ be 4 x3 ++ be 4 x4 ++ be 4 x5) = some (28, 28, 24, [] ++ be 4 x0 ++ be 4 x1 ++ be 4 x2 ++ be 4 x3 ++ be 4 x4 ++ be 4 x5, 28, [] ++ be 4 x0 ++ be 4 x1 ++ be 4 x2 ++ be 4 x3 ++ be 4 x4 ++ be 4 x5 ++ be 4 x6) := f41.spec K 24 4 x6 ([] ++ be 4 x0 ++ be 4 x1 ++ be 4 x2 ++ be 4 x3 ++ be 4 x4 ++ be 4 x5) (by simp [be_length]) t6 (by omega) (by omega)
  rw [g6, subI_self ([] ++ be 4 x0 ++ be 4 x1 ++ be 4 x2 ++ be 4 x3 ++ be 4 x4 ++ be 4 x5) (show _ = 24 by simp [be_length]), p6, bind_s]
  simp only []
  rw [Nat.zero_add, ble_true (Nat.le_refl 28), Bool.and_self, Bool.and_self, cond_t]
  have p7 : f41.F K (28, (x7 : Int), ((4 : Nat) : Int), 28, [] ++ be 4 x0 ++ be 4 x1 ++ be 4 x2 ++ be 4 x3 ++ be 4 x4 ++ be 4 x5 ++ be 4 x6) = some (32, 32, 28, [] ++ be 4 x0 ++ be 4 x1 ++ be 4 x2 ++ be 4 x3 ++ be 4 x4 ++ be 4 x5 ++ be 4 x6, 32, [] ++ be 4 x0 ++ be 4 x1 ++ be 4 x2 ++ be 4 x3 ++ be 4 x4 ++ be 4 x5 ++ be 4 x6 ++ be 4 x7) := f41.spec K 28 4 x7 ([] ++ be 4 x0 ++ be 4 x1 ++ be 4 x2 ++ be 4 x3 ++ be 4 x4 ++ be 4 x5 ++ be 4 x6) (by simp [be_length]) t7 (by omega) (by omega)
  rw [g7, subI_self ([] ++ be 4 x0 ++ be 4 x1 ++ be 4 x2 ++ be 4 x3 ++ be 4 x4 ++ be 4 x5 ++ be 4 x6) (show _ = 28 by simp [be_length]), p7, bind_s]
  simp only []
  rw [Nat.zero_add, ble_true (Nat.le_refl 32)]
  rw [Bool.and_self, show Nat.beq 32 32 = true from rfl, Bool.and_self, cond_t, subI_self ([] ++ be 4 x0 ++ be 4 x1 ++ be 4 x2 ++ be 4 x3 ++ be 4 x4 ++ be 4 x5 ++ be 4 x6 ++ be 4 x7) (show _ = 32 by simp [be_length]), ← hd, spl, show Nat.min 32 32 = 32 from rfl, padT_self (Sh.sum m) (digest_length _)]
  rfl
end Go.Proofs

namespace Go.Proofs
open Go.VM
end Go.Proofs

namespace Go.Proofs
open Go.VM
theorem blen_ge {x : Nat} (h : x ≠ 0) : 2 ^ (blen x - 1) ≤ x ∧ 0 < blen x := by
  unfold blen
  rw [if_neg h]
  exact ⟨Nat.log2_self_le h, by omega⟩
end Go.Proofs

namespace Go.Proofs
open Go.VM
end Go.Proofs

namespace Go.Proofs
open Go.VM
end Go.Proofs

namespace Go.Proofs
open Go.VM
end Go.Proofs

namespace Go.Proofs
open Go.VM
end Go.Proofs

namespace Go.Proofs
open Go.VM
end Go.Proofs

namespace Go.Proofs
open Go.VM
def f68.k0 : ByteArray := ByteArray.mk #[0, 1, 2, 2, 3, 3, 3, 3, 4, 4, 4, 4, 4, 4, 4, 4, 5, 5, 5, 5, 5, 5, 5, 5, 5, 5, 5, 5, 5, 5, 5, 5, 6, 6, 6, 6, 6, 6, 6, 6, 6, 6, 6, 6, 6, 6, 6, 6, 6, 6, 6, 6, 6, 6, 6, 6, 6, 6, 6, 6, 6, 6, 6, 6, 7, 7, 7, 7, 7, 7, 7, 7, 7, 7, 7, 7, 7, 7, 7, 7, 7, 7, 7, 7, 7, 7, 7, 7, 7, 7, 7, 7, 7, 7, 7, 7, 7, 7, 7, 7, 7, 7, 7, 7, 7, 7, 7, 7, 7, 7, 7, 7, 7, 7, 7, 7, 7, 7, 7, 7, 7, 7, 7, 7, 7, 7, 7, 7, 8, 8, 8, 8, 8, 8, 8, 8, 8, 8, 8, 8, 8, 8, 8, 8, 8, 8, 8, 8, 8, 8, 8, 8, 8, 8, 8, 8, 8, 8, 8, 8, 8, 8, 8, 8, 8, 8, 8, 8, 8, 8, 8, 8, 8, 8, 8, 8, 8, 8, 8, 8, 8, 8, 8, 8, 8, 8, 8, 8, 8, 8, 8, 8, 8, 8, 8, 8, 8, 8, 8, 8, 8, 8, 8, 8, 8, 8, 8, 8, 8, 8, 8, 8, 8, 8, 8, 8, 8, 8, 8, 8, 8, 8, 8, 8, 8, 8, 8, 8, 8, 8, 8, 8, 8, 8, 8, 8, 8, 8, 8, 8, 8, 8, 8, 8, 8, 8, 8, 8, 8, 8, 8, 8, 8, 8, 8, 8]
def f68.T (_K : Nat) (a0 : Int) : Option (Int) :=
  bif (decide (a0 ≥ 4294967296)) then
    let v2 := Int.fdiv a0 (2 ^ 32)
    bif (decide (v2 ≥ 65536)) then
      let v4 := Int.fdiv v2 (2 ^ 16)
      bif (decide (v4 ≥ 256)) then
        let v7 := IntKind.wrap .u8 (Int.fdiv v4 (2 ^ 8))
        bif decide (0 ≤ v7 ∧ v7 < ((ByteArray.size f68.k0 : Nat) : Int)) then
          some (IntKind.wrap .i64 (56 + (IntKind.wrap .i64 (strAt f68.k0 (Int.toNat v7)))))
        else
          none
      else
        let v11 := IntKind.wrap .u8 v4
        bif decide (0 ≤ v11 ∧ v11 < ((ByteArray.size f68.k0 : Nat) : Int)) then
          some (IntKind.wrap .i64 (48 + (IntKind.wrap .i64 (strAt f68.k0 (Int.toNat v11)))))
        else
          none
    else
      bif (decide (v2 ≥ 256)) then
        let v17 := IntKind.wrap .u8 (Int.fdiv v2 (2 ^ 8))
        bif decide (0 ≤ v17 ∧ v17 < ((ByteArray.size f68.k0 : Nat) : Int)) then
          some (IntKind.wrap .i64 (40 + (IntKind.wrap .i64 (strAt f68.k0 (Int.toNat v17)))))
        else
          none
      else
        let v21 := IntKind.wrap .u8 v2
        bif decide (0 ≤ v21 ∧ v21 < ((ByteArray.size f68.k0 : Nat) : Int)) then
          some (IntKind.wrap .i64 (32 + (IntKind.wrap .i64 (strAt f68.k0 (Int.toNat v21)))))
        else
          none
  else
    bif (decide (a0 ≥ 65536)) then
      let v26 := Int.fdiv a0 (2 ^ 16)
      bif (decide (v26 ≥ 256)) then
        let v29 := IntKind.wrap .u8 (Int.fdiv v26 (2 ^ 8))
        bif decide (0 ≤ v29 ∧ v29 < ((ByteArray.size f68.k0 : Nat) : Int)) then
          some (IntKind.wrap .i64 (24 + (IntKind.wrap .i64 (strAt f68.k0 (Int.toNat v29)))))
        else
          none
      else
        let v33 := IntKind.wrap .u8 v26
        bif decide (0 ≤ v33 ∧ v33 < ((ByteArray.size f68.k0 : Nat) : Int)) then
          some (IntKind.wrap .i64 (16 + (IntKind.wrap .i64 (strAt f68.k0 (Int.toNat v33)))))
        else
          none
    else
      bif (decide (a0 ≥ 256)) then
        let v39 := IntKind.wrap .u8 (Int.fdiv a0 (2 ^ 8))
        bif decide (0 ≤ v39 ∧ v39 < ((ByteArray.size f68.k0 : Nat) : Int)) then
          some (IntKind.wrap .i64 (8 + (IntKind.wrap .i64 (strAt f68.k0 (Int.toNat v39)))))
        else
          none
      else
        let v43 := IntKind.wrap .u8 a0
        bif decide (0 ≤ v43 ∧ v43 < ((ByteArray.size f68.k0 : Nat) : Int)) then
          some (IntKind.wrap .i64 (0 + (IntKind.wrap .i64 (strAt f68.k0 (Int.toNat v43)))))
        else
          none
def f68.F (K : Nat) (x : Int) : Option (Int) := f68.T K x
def f68.av (x : Int) : List VV := [.int .u64 x]
def f68.bl (_x : Int) : List (Nat × Blk) := []
def f68.inA : VS → Option (Int)
  | ⟨[(0, .int .u64 a0)], [], 0⟩ => some a0
  | _ => none
def f68.o0 (y : Int) : VS := ⟨[(0, .int .i64 y)], [], 0⟩
def f68.inR : VS → Option (Int)
  | ⟨[(0, .int .i64 y)], [], 0⟩ => some y
  | _ => none
noncomputable def f68.E (K : Nat) : Entry := genE 0 f68.inA (f68.F K) (dv1 f68.o0)
theorem f68.ok (K : Nat) : EntryOK Try.prog 68 (f68.E K) := gen_ok mix tys_ok (tab_ok ( tab_nil)) Try.func68 (c := bodyOf Try.f68) (by kernel_rfl) (by kernel_rfl) (loops_none (lp := lpNone) (by kernel_rfl)) (av := f68.av) (bl := f68.bl) (inR := f68.inR) (out := f68.o0) (fuel := 400)
  (by intro s x h; unfold f68.inA at h; split at h <;> simp at h; subst h; rfl) (fun _ => Nat.le_of_ble_eq_true rfl)
  (by intro s y h; unfold f68.inR at h; split at h <;> simp at h <;> subst h <;> rfl) (fun _ _ _ => rfl) (fun _ => by kernel_rfl)
end Go.Proofs

namespace Go.Proofs
open Go.VM
end Go.Proofs

namespace Go.Proofs
open Go.VM
end Go.Proofs

namespace Go.Proofs
open Go.VM
theorem wrap_u8 (n : Nat) (h : n < 256) : IntKind.wrap .u8 (n : Int) = (n : Int) := by
  simp only [IntKind.wrap, IntKind.bits, IntKind.signed, Bool.false_and, Bool.false_eq_true, if_false]
  omega
theorem len8 : ∀ i : Fin 256, strAt f68.k0 i.val = ((blen i.val : Nat) : Int) := by decide +kernel
theorem blen_shift (x p : Nat) (h : x / 2 ^ p ≠ 0) : blen x = p + blen (x / 2 ^ p) := by
  have h1 := blen_word (x % 2 ^ p) (x / 2 ^ p) p (Nat.mod_lt _ (Nat.two_pow_pos p)) h
  have h2 := Nat.mod_add_div x (2 ^ p)
  rw [Nat.mul_comm] at h2
  rw [h2] at h1
  exact h1
theorem f68.end (x p : Nat) (h : x < 256) (hp : p ≤ 56) :
    (bif decide (0 ≤ IntKind.wrap .u8 ((x : Nat) : Int) ∧ IntKind.wrap .u8 ((x : Nat) : Int) < ((ByteArray.size f68.k0 : Nat) : Int)) then some (IntKind.wrap .i64 ((p : Int) + IntKind.wrap .i64 (strAt f68.k0 (Int.toNat (IntKind.wrap .u8 ((x : Nat) : Int)))))) else none) = some (((p + blen x : Nat) : Int)) := by
  have h1 := len8 ⟨x, h⟩
  have h2 : blen x ≤ 8 := blen_le (k := 8) h
  have h3 : ((ByteArray.size f68.k0 : Nat) : Int) = 256 := by decide +kernel
  rw [wrap_u8 x h, h3, decide_eq_true ⟨by omega, by omega⟩, cond_t, Int.toNat_natCast]
  rw [show strAt f68.k0 x = ((blen x : Nat) : Int) from h1, wrap_i (((blen x : Nat) : Int)) (by omega) (by omega), wrap_i _ (by omega) (by omega)]
  rfl
theorem f68.spec (K x : Nat) (hx : x < 18446744073709551616) : f68.F K (x : Int) = some ((blen x : Nat) : Int) := by
  simp only [f68.F, f68.T, fdiv_nat]
  have fin : ∀ (y p q : Nat), y / 2 ^ q < 256 → y / 2 ^ q ≠ 0 → p + q ≤ 56 → blen x = p + blen y → ∀ P : Int, P = ((p + q : Nat) : Int) →
      (bif decide (0 ≤ IntKind.wrap .u8 ((y / 2 ^ q : Nat) : Int) ∧ IntKind.wrap .u8 ((y / 2 ^ q : Nat) : Int) < ((ByteArray.size f68.k0 : Nat) : Int)) then some (IntKind.wrap .i64 (P + IntKind.wrap .i64 (strAt f68.k0 (Int.toNat (IntKind.wrap .u8 ((y / 2 ^ q : Nat) : Int)))))) else none) = some ((blen x : Nat) : Int) := by
    rintro y p q h1 h2 h3 h4 P rfl
    rw [f68.end _ _ h1 h3, h4, blen_shift y q h2, Nat.add_assoc]
  have fin0 : ∀ (y p : Nat), y < 256 → p ≤ 56 → blen x = p + blen y → ∀ P : Int, P = (p : Int) →
      (bif decide (0 ≤ IntKind.wrap .u8 ((y : Nat) : Int) ∧ IntKind.wrap .u8 ((y : Nat) : Int) < ((ByteArray.size f68.k0 : Nat) : Int)) then some (IntKind.wrap .i64 (P + IntKind.wrap .i64 (strAt f68.k0 (Int.toNat (IntKind.wrap .u8 ((y : Nat) : Int)))))) else none) = some ((blen x : Nat) : Int) := by
    rintro y p h1 h3 h4 P rfl
    rw [f68.end _ _ h1 h3, h4]
  by_cases h1 : 4294967296 ≤ x
  · rw [decide_eq_true (show (x : Int) ≥ 4294967296 by omega), cond_t]
    have b1 : blen x = 32 + blen (x / 2 ^ 32) := blen_shift x 32 (by omega)
    have l1 : x / 2 ^ 32 < 4294967296 := by omega
    generalize x / 2 ^ 32 = x1 at *
    by_cases h2 : 65536 ≤ x1
    · rw [decide_eq_true (show (x1 : Int) ≥ 65536 by omega), cond_t]
      have b2 : blen x1 = 16 + blen (x1 / 2 ^ 16) := blen_shift x1 16 (by omega)
      have l2 : x1 / 2 ^ 16 < 65536 := by omega
      generalize x1 / 2 ^ 16 = x2 at *
      by_cases h3 : 256 ≤ x2
      · rw [decide_eq_true (show (x2 : Int) ≥ 256 by omega), cond_t]
        exact fin x2 48 8 (by omega) (by omega) (by omega) (by omega) _ rfl
      · rw [decide_eq_false (show ¬ (x2 : Int) ≥ 256 by omega), cond_f]
        exact fin0 x2 48 (by omega) (by omega) (by omega) _ rfl
    · rw [decide_eq_false (show ¬ (x1 : Int) ≥ 65536 by omega), cond_f]
      by_cases h3 : 256 ≤ x1
      · rw [decide_eq_true (show (x1 : Int) ≥ 256 by omega), cond_t]
        exact fin x1 32 8 (by omega) (by omega) (by omega) (by omega) _ rfl
      · rw [decide_eq_false (show ¬ (x1 : Int) ≥ 256 by omega), cond_f]
        exact fin0 x1 32 (by omega) (by omega) (by omega) _ rfl
  · rw [decide_eq_false (show ¬ (x : Int) ≥ 4294967296 by omega), cond_f]
    by_cases h2 : 65536 ≤ x
    · rw [decide_eq_true (show (x : Int) ≥ 65536 by omega), cond_t]
      have b2 : blen x = 16 + blen (x / 2 ^ 16) := blen_shift x 16 (by omega)
      have l2 : x / 2 ^ 16 < 65536 := by omega
      generalize x / 2 ^ 16 = x2 at *
      by_cases h3 : 256 ≤ x2
      · rw [decide_eq_true (show (x2 : Int) ≥ 256 by omega), cond_t]
        exact fin x2 16 8 (by omega) (by omega) (by omega) (by omega) _ rfl
      · rw [decide_eq_false (show ¬ (x2 : Int) ≥ 256 by omega), cond_f]
        exact fin0 x2 16 (by omega) (by omega) (by omega) _ rfl
    · rw [decide_eq_false (show ¬ (x : Int) ≥ 65536 by omega), cond_f]
      by_cases h3 : 256 ≤ x
      · rw [decide_eq_true (show (x : Int) ≥ 256 by omega), cond_t]
        exact fin x 0 8 (by omega) (by omega) (by omega) (by omega) _ rfl
      · rw [decide_eq_false (show ¬ (x : Int) ≥ 256 by omega), cond_f]
        exact fin0 x 0 (by omega) (by omega) (by omega) _ rfl
end Go.Proofs

namespace Go.Proofs
open Go.VM
end Go.Proofs

namespace Go.Proofs
open Go.VM
end Go.Proofs

namespace Go.Proofs
open Go.VM
end Go.Proofs

namespace Go.Proofs
open Go.VM
end Go.Proofs

namespace Go.Proofs
open Go.VM
def Sh.cut (name : List Int) (ps : List (List Int)) : List Int := Sh.frame name ++ be 4 ps.length ++ ps.flatMap Sh.frame
def Sh.sha (name : List Int) (ps : List (List Int)) : List Int := Sh.sum (Sh.cut name ps)
theorem Sh.rep0 : Sh.Rep [] [0, 0, 0, 0, 0, 0, 0, 0, 0, 0, 0, 0, 0, 0, 0, 0, 0, 0, 0, 0, 0, 0, 0, 0, 0, 0, 0, 0, 0, 0, 0, 0, 0, 0, 0, 0, 0, 0, 0, 0, 0, 0, 0, 0, 0, 0, 0, 0, 0, 0, 0, 0, 0, 0, 0, 0, 0, 0, 0, 0, 0, 0, 0, 0] 0 Sh.init :=
  ⟨rfl, by intro x hx; simp only [List.mem_cons, List.not_mem_nil, or_false, or_self] at hx; omega, rfl, rfl, rfl⟩
theorem f50.spec (K : Nat) (name : ByteArray) (n0 : Nat) (l0 : List Int) (n1 : Nat) (l1 : List Int) (n2 : Nat) (l2 : List Int) (n3 : Nat) (l3 : List Int) (hs : name.size ≤ 1000000000) (e0 : l0.length = n0) (o0 : octets l0) (z0 : n0 ≤ 1000000000) (e1 : l1.length = n1) (o1 : octets l1) (z1 : n1 ≤ 1000000000) (e2 : l2.length = n2) (o2 : octets l2) (z2 : n2 ≤ 1000000000) (e3 : l3.length = n3) (o3 : octets l3) (z3 : n3 ≤ 1000000000) (hK : 200 + name.size < K) (k0 : 68 + n0 < K) (k1 : 68 + n1 < K) (k2 : 68 + n2 < K) (k3 : 68 + n3 < K) :
    f50.F K (name, n0, n1, n2, n3, n0, l0, n1, l1, n2, l2, n3, l3) = some (Sh.sha (strL name) [l0, l1, l2, l3], n0, n1, n2, n3, n0, l0, n1, l1, n2, l2, n3, l3) := by
  have hnl := strL_length name
  have hno := strL_octets name
  simp only [f50.F, f50.T]
  rw [show f42.F K () = some ([0, 0, 0, 0, 0, 0, 0, 0, 0, 0, 0, 0, 0, 0, 0, 0, 0, 0, 0, 0, 0, 0, 0, 0, 0, 0, 0, 0, 0, 0, 0, 0, 0, 0, 0, 0, 0, 0, 0, 0, 0, 0, 0, 0, 0, 0, 0, 0, 0, 0, 0, 0, 0, 0, 0, 0, 0, 0, 0, 0, 0, 0, 0, 0], 0, 0, Sh.init) from rfl, bind_s]
  have a0 : f69.F K (0, name.size, 0, [], name.size, strL name) = some (0 + 4 + name.size, 0, [], name.size, strL name, 0 + 4 + name.size, [] ++ Sh.frame (strL name)) := f69.spec K 0 name.size [] (strL name) rfl hnl (by omega) (by omega)
  have a1 : f41.F K (0, ((4 : Nat) : Int), ((4 : Nat) : Int), 0, []) = some (4, 4, 0, [], 4, [] ++ be 4 4) := f41.spec K 0 4 4 [] rfl (by omega) (by omega) (by omega)
  rw [Nat.zero_add, List.nil_append] at a0
  rw [List.nil_append] at a1
  rw [Nat.zero_add, ble_true (Nat.le_refl name.size), Bool.and_self, Bool.and_self, cond_t, subI_self _ hnl, a0, bind_s, show ((4 : Int)) = ((4 : Nat) : Int) from rfl, a1, bind_s]
  simp only []
  have hf := frame_length (strL name)
  rw [hnl] at hf
  rw [Nat.zero_add, Nat.zero_add, ble_true (Nat.le_refl (4 + name.size)), ble_true (Nat.le_refl 4), Bool.and_self, Bool.and_self, Bool.and_self, cond_t, subI_self _ hf, subI_self _ (be_length 4 4)]
  obtain ⟨B, H, S, c0, R⟩ := f40v2.spec K [] (4 + name.size) (Sh.frame (strL name)) 4 (be 4 4) hf (frame_octets hno) (by omega) (be_length _ _) (be_octets _ _) (by omega) _ _ _ Sh.rep0 (by omega)
  rw [show f40v2.F K ([0, 0, 0, 0, 0, 0, 0, 0, 0, 0, 0, 0, 0, 0, 0, 0, 0, 0, 0, 0, 0, 0, 0, 0, 0, 0, 0, 0, 0, 0, 0, 0, 0, 0, 0, 0, 0, 0, 0, 0, 0, 0, 0, 0, 0, 0, 0, 0, 0, 0, 0, 0, 0, 0, 0, 0, 0, 0, 0, 0, 0, 0, 0, 0], 0, 0, 4 + name.size, 4, Sh.init, 4 + name.size, Sh.frame (strL name), 4, be 4 4) = _ from c0, bind_s]
  simp only []
  have g0 : f69.F K (0, n0, 0, [], n0, l0) = some (4 + n0, 0, [], n0, l0, 4 + n0, Sh.frame l0) := by
    have := f69.spec K 0 n0 [] l0 rfl e0 (by omega) (by omega)
    rw [Nat.zero_add, List.nil_append] at this
    exact this
  have f0_ : (Sh.frame l0).length = 4 + n0 := by rw [frame_length, e0]
  rw [Nat.zero_add, ble_true (Nat.le_refl n0), Bool.and_self, Bool.and_self, cond_t, subI_self _ e0, g0, bind_s]
  simp only []
  rw [Nat.zero_add, ble_true (Nat.le_refl (4 + n0)), Bool.and_self, Bool.and_self, cond_t, subI_self _ f0_]
  obtain ⟨B0, H0, S0, c0_, R0⟩ := f40.spec K ([] ++ Sh.frame (strL name) ++ be 4 4) (4 + n0) (Sh.frame l0) f0_ (frame_octets o0) (by omega) _ _ _ R (by omega)
  rw [c0_, bind_s]
  simp only []
  have g1 : f69.F K (0, n1, 0, [], n1, l1) = some (4 + n1, 0, [], n1, l1, 4 + n1, Sh.frame l1) := by
    have := f69.spec K 0 n1 [] l1 rfl e1 (by omega) (by omega)
    rw [Nat.zero_add, List.nil_append] at this
    exact this
  have f1_ : (Sh.frame l1).length = 4 + n1 := by rw [frame_length, e1]
  rw [Nat.zero_add, ble_true (Nat.le_refl n1), Bool.and_self, Bool.and_self, cond_t, subI_self _ e1, g1, bind_s]
  simp only []
  rw [Nat.zero_add, ble_true (Nat.le_refl (4 + n1)), Bool.and_self, Bool.and_self, cond_t, subI_self _ f1_]
  obtain ⟨B1, H1, S1, c1_, R1⟩ := f40.spec K ([] ++ Sh.frame (strL name) ++ be 4 4 ++ Sh.frame l0) (4 + n1) (Sh.frame l1) f1_ (frame_octets o1) (by omega) _ _ _ R0 (by omega)
  rw [c1_, bind_s]
  simp only []
  have g2 : f69.F K (0, n2, 0, [], n2, l2) = some (4 + n2, 0, [], n2, l2, 4 + n2, Sh.frame l2) := by
    have := f69.spec K 0 n2 [] l2 rfl e2 (by omega) (by omega)
    rw [Nat.zero_add, List.nil_append] at this
    exact this
  have f2_ : (Sh.frame l2).length = 4 + n2 := by rw [frame_length, e2]
  rw [Nat.zero_add, ble_true (Nat.le_refl n2), Bool.and_self, Bool.and_self, cond_t, subI_self _ e2, g2, bind_s]
  simp only []
  rw [Nat.zero_add, ble_true (Nat.le_refl (4 + n2)), Bool.and_self, Bool.and_self, cond_t, subI_self _ f2_]
  obtain ⟨B2, H2, S2, c2_, R2⟩ := f40.spec K ([] ++ Sh.frame (strL name) ++ be 4 4 ++ Sh.frame l0 ++ Sh.frame l1) (4 + n2) (Sh.frame l2) f2_ (frame_octets o2) (by omega) _ _ _ R1 (by omega)
  rw [c2_, bind_s]
  simp only []
  have g3 : f69.F K (0, n3, 0, [], n3, l3) = some (4 + n3, 0, [], n3, l3, 4 + n3, Sh.frame l3) := by
    have := f69.spec K 0 n3 [] l3 rfl e3 (by omega) (by omega)
    rw [Nat.zero_add, List.nil_append] at this
    exact this
  have f3_ : (Sh.frame l3).length = 4 + n3 := by rw [frame_length, e3]
  rw [Nat.zero_add, ble_true (Nat.le_refl n3), Bool.and_self, Bool.and_self, cond_t, subI_self _ e3, g3, bind_s]
  simp only []
  rw [Nat.zero_add, ble_true (Nat.le_refl (4 + n3)), Bool.and_self, Bool.and_self, cond_t, subI_self _ f3_]
  obtain ⟨B3, H3, S3, c3_, R3⟩ := f40.spec K ([] ++ Sh.frame (strL name) ++ be 4 4 ++ Sh.frame l0 ++ Sh.frame l1 ++ Sh.frame l2) (4 + n3) (Sh.frame l3) f3_ (frame_octets o3) (by omega) _ _ _ R2 (by omega)
  rw [c3_, bind_s]
  simp only []
  rw [f16v2.spec K _ _ _ _ R3 (by omega), bind_s]
  simp only []
  have hM : [] ++ Sh.frame (strL name) ++ be 4 4 ++ Sh.frame l0 ++ Sh.frame l1 ++ Sh.frame l2 ++ Sh.frame l3 = Sh.cut (strL name) [l0, l1, l2, l3] := by
    simp only [Sh.cut, List.nil_append, List.length_cons, List.length_nil, List.flatMap_cons, List.flatMap_nil, List.append_nil, List.append_assoc]
  rw [hM, ← Sh.sha]
def Sh.number (Q : Nat) (name : List Int) (ps : List (List Int)) : Nat := (tv (Sh.sha name (ps ++ [[0]])) * 2 ^ 256 + tv (Sh.sha name (ps ++ [[1]]))) % Q
end Go.Proofs

namespace Go.Proofs
open Go.VM
abbrev f18.Ty0 := List Int × Nat × List Int
abbrev f18.Ty1 := Nat × Nat × List Int
def f18.T (K : Nat) (a0 : Nat) (m0_0 : Nat) (m0_1 : List Int) : Option (f18.Ty0) :=
  (f42.F K ()).bind fun y1 =>
  bif ((Nat.ble (0 + a0) m0_0 && true) && true) then
    (f40.F K (y1.1, y1.2.1, y1.2.2.1, a0, y1.2.2.2, a0, (subI m0_1 0 a0))).bind fun y2 =>
    (f16v2.F K (y2.1, y2.2.1, y2.2.2.1, y2.2.2.2.2.2.2)).bind fun y3 =>
    some (y3.1, m0_0, m0_1)
  else
    none
def f18.F (K : Nat) (x : f18.Ty1) : Option (f18.Ty0) := f18.T K x.1 x.2.1 x.2.2
def f18.av (x : f18.Ty1) : List VV := [.vw true 0 0 x.1 1]
def f18.bl (x : f18.Ty1) : List (Nat × Blk) := [(0, ([.ints .u8 x.2.1 x.2.2], 0, .ro))]
def f18.inA : VS → Option (f18.Ty1)
  | ⟨[(0, .vw true 0 0 a0 1)], [(0, ([.ints .u8 m0_0 m0_1], 0, .ro))], 2⟩ => some (a0, m0_0, m0_1)
  | _ => none
def f18.o0 (y : f18.Ty0) : VS := ⟨[(0, .agg [.ints .u8 32 y.1])], [(0, ([.ints .u8 y.2.1 y.2.2], 0, .ro))], 2⟩
def f18.inR : VS → Option (f18.Ty0)
  | ⟨[(0, .agg [.ints .u8 32 y])], [(0, ([.ints .u8 z0_0 z0_1], 0, .ro))], 2⟩ => some (y, z0_0, z0_1)
  | _ => none
noncomputable def f18.E (K : Nat) : Entry := genE 2 f18.inA (f18.F K) (dv1 f18.o0)
theorem f18.ok (K : Nat) : EntryOK Try.prog 18 (f18.E K) := gen_ok mix tys_ok (sp := tabSp [(42, (f42.E K)), (40, (rowsE 1 .u8 (f40.E K))), (16, (f16v2.E K))]) (tab_ok ((tab_cons (f42.ok K) (tab_cons (rows_ok (f40.ok K)) (tab_cons (f16v2.ok K) tab_nil))))) Try.func18 (c := bodyOf Try.f18) (by kernel_rfl) (by kernel_rfl) (loops_none (lp := lpNone) (by kernel_rfl)) (av := f18.av) (bl := f18.bl) (inR := f18.inR) (out := f18.o0) (fuel := 400)
  (by intro s x h; unfold f18.inA at h; split at h <;> simp at h; subst h; rfl) (fun _ => Nat.le_of_ble_eq_true rfl)
  (by intro s y h; unfold f18.inR at h; split at h <;> simp at h <;> subst h <;> rfl) (fun _ _ _ => rfl) (fun _ => by kernel_rfl)
end Go.Proofs

namespace Go.Proofs
open Go.VM
abbrev f15v2.Ty0 := Int × List Int × Int × Int × Nat × List Int × List Int
abbrev f15v2.Ty1 := Nat × List Int × Int × Int × Nat × List Int × List Int
def f15v2.T (K : Nat) (a1 : Nat) (m0_0 : List Int) (m0_1 : Int) (m0_2 : Int) (m1_0 : Nat) (m1_1 : List Int) (m3 : List Int) : Option (f15v2.Ty0) :=
  bif ((Nat.ble (0 + a1) m1_0 && true) && true) then
    (f40.F K (m0_0, m0_1, m0_2, a1, m3, a1, (subI m1_1 0 a1))).bind fun y1 =>
    some (0, y1.1, y1.2.1, y1.2.2.1, m1_0, m1_1, y1.2.2.2.2.2.2)
  else
    none
def f15v2.F (K : Nat) (x : f15v2.Ty1) : Option (f15v2.Ty0) := f15v2.T K x.1 x.2.1 x.2.2.1 x.2.2.2.1 x.2.2.2.2.1 x.2.2.2.2.2.1 x.2.2.2.2.2.2
def f15v2.av (x : f15v2.Ty1) : List VV := [.ptr 0 0, .vw true 1 0 x.1 2]
def f15v2.bl (x : f15v2.Ty1) : List (Nat × Blk) := [(0, ([.ptr 3 0, .ints .u8 64 x.2.1, .int .i64 x.2.2.1, .int .u64 x.2.2.2.1], 30, .norm)), (1, ([.ints .u8 x.2.2.2.2.1 x.2.2.2.2.2.1], 0, .ro)), (3, ([.ints .u32 8 x.2.2.2.2.2.2], 110, .norm))]
def f15v2.inA : VS → Option (f15v2.Ty1)
  | ⟨[(0, .ptr 0 0), (1, .vw true 1 0 a1 2)], [(0, ([.ptr 3 0, .ints .u8 64 m0_0, .int .i64 m0_1, .int .u64 m0_2], 30, .norm)), (1, ([.ints .u8 m1_0 m1_1], 0, .ro)), (3, ([.ints .u32 8 m3], 110, .norm))], 4⟩ => some (a1, m0_0, m0_1, m0_2, m1_0, m1_1, m3)
  | _ => none
def f15v2.o0 (y : f15v2.Ty0) : VS := ⟨[(0, .int .i64 y.1)], [(0, ([.ptr 4 0, .ints .u8 64 y.2.1, .int .i64 y.2.2.1, .int .u64 y.2.2.2.1], 30, .norm)), (1, ([.ints .u8 y.2.2.2.2.1 y.2.2.2.2.2.1], 0, .ro)), (3, ([], 110, .dead)), (4, ([.ints .u32 8 y.2.2.2.2.2.2], 110, .norm))], 5⟩
def f15v2.inR : VS → Option (f15v2.Ty0)
  | ⟨[(0, .int .i64 y)], [(0, ([.ptr 4 0, .ints .u8 64 z0_0, .int .i64 z0_1, .int .u64 z0_2], 30, .norm)), (1, ([.ints .u8 z1_0 z1_1], 0, .ro)), (3, ([], 110, .dead)), (4, ([.ints .u32 8 z4], 110, .norm))], 5⟩ => some (y, z0_0, z0_1, z0_2, z1_0, z1_1, z4)
  | _ => none
noncomputable def f15v2.E (K : Nat) : Entry := genE 4 f15v2.inA (f15v2.F K) (dv1 f15v2.o0)
theorem f15v2.ok (K : Nat) : EntryOK Try.prog 15 (f15v2.E K) := gen_ok mix tys_ok (sp := tabSp [(40, (rowsE 1 .u8 (f40.E K)))]) (tab_ok ((tab_cons (rows_ok (f40.ok K)) tab_nil))) Try.func15 (c := bodyOf Try.f15) (by kernel_rfl) (by kernel_rfl) (loops_none (lp := lpNone) (by kernel_rfl)) (av := f15v2.av) (bl := f15v2.bl) (inR := f15v2.inR) (out := f15v2.o0) (fuel := 400)
  (by intro s x h; unfold f15v2.inA at h; split at h <;> simp at h; subst h; rfl) (fun _ => Nat.le_of_ble_eq_true rfl)
  (by intro s y h; unfold f15v2.inR at h; split at h <;> simp at h <;> subst h <;> rfl) (fun _ _ _ => rfl) (fun _ => by kernel_rfl)
end Go.Proofs

namespace Go.Proofs
open Go.VM
abbrev f46.Ty0 := Int × Int × List Int × List Int
abbrev f46.Ty1 := List Int × List Int
abbrev f46.Ty2 := Int × List Int
noncomputable def f46.c : Code := bodyOf Try.f46
def f46.s0t (_K : Nat) (rec : f46.Ty0 → Option (f46.Ty1)) (t0 : Int) (t7 : Int) (b0 : List Int) (b1 : List Int) : Option (f46.Ty1) :=
  bif (decide (t7 < 64)) then
    bif decide (0 ≤ t7 ∧ t7 < 64) then
      bif decide (0 ≤ t7 ∧ t7 < 64) then
        rec (t0, (IntKind.wrap .i64 (t7 + 1)), b0, (setD b1 (Int.toNat t7) (bits .xor .u8 (List.getD b1 (Int.toNat t7) 0) t0)))
      else
        none
    else
      none
  else
    some (b0, b1)
def f46.s0 (K : Nat) (rec : f46.Ty0 → Option (f46.Ty1)) (x : f46.Ty0) : Option (f46.Ty1) := f46.s0t K rec x.1 x.2.1 x.2.2.1 x.2.2.2
noncomputable def f46.s0.b : Code := (findLoop 0 f46.c).getD .skip
def f46.s0.h : Hint := { lv := [0, 4, 7] }
def f46.s0.ho : Hint := { lv := [4] }
def f46.s0.shp (x : f46.Ty0) : VS := ⟨[(0, .int .u8 x.1), (4, .ptr 1 0), (7, .int .i64 x.2.1)], [(0, ([.ints .u8 64 x.2.2.1], 25, .norm)), (1, ([.ints .u8 64 x.2.2.2], 25, .norm))], 2⟩
def f46.s0.inX : VS → Option (f46.Ty0)
  | ⟨[(0, .int .u8 t0), (4, .ptr 1 0), (7, .int .i64 t7)], [(0, ([.ints .u8 64 b0], 25, .norm)), (1, ([.ints .u8 64 b1], 25, .norm))], 2⟩ => some (t0, t7, b0, b1)
  | _ => none
def f46.s0.o0 (y : f46.Ty1) : VS := ⟨[(4, .ptr 1 0)], [(0, ([.ints .u8 64 y.1], 25, .norm)), (1, ([.ints .u8 64 y.2], 25, .norm))], 2⟩
def f46.s0.des : ∀ α : Type, (f46.Ty1) → (Ex → VS → Option α) → Option α := (des1 (.exit 0) f46.s0.o0)
def f46.s0.out : f46.Ty1 → Ex × VS := (fun y => (.exit 0, f46.s0.o0 y))
theorem f46.s0.desOK : ∀ α y (k : Ex → VS → Option α), f46.s0.des α y k = k (f46.s0.out y).1 (f46.s0.out y).2 := (fun _ _ _ => rfl)
def f46.s0.inY : Ex → VS → Option (f46.Ty1)
  | .exit 0, ⟨[(4, .ptr 1 0)], [(0, ([.ints .u8 64 b0], 25, .norm)), (1, ([.ints .u8 64 b1], 25, .norm))], 2⟩ => some (b0, b1)
  | _, _ => none
def f46.lp (K : Nat) : Nat → Option (Hint × Summ) := tabLp [(0, f46.s0.h, summOf (iter (f46.s0 K) K) f46.s0.inX f46.s0.des)]
noncomputable def f46.tab (_K : Nat) : List (Nat × Entry) := []
theorem f46.tabOK (K : Nat) : SpecOK Try.prog (tabSp (f46.tab K)) := tab_ok ( tab_nil)
theorem f46.s0.eq (K : Nat) (rec : f46.Ty0 → Option (f46.Ty1)) (x : f46.Ty0) : f46.s0 K rec x = roundL (getA tys) (tabSp (f46.tab K)) 18 1 (f46.lp K) 400 f46.s0.b f46.s0.h f46.s0.ho f46.s0.shp f46.s0.inX f46.s0.inY rec x := by kernel_rfl
theorem f46.s0.lok (K : Nat) : LoopsOK Try.prog 18 1 (f46.lp K) f46.s0.b := loops_ok (by
  have h : loopsIn (f46.lp K) f46.s0.b = [] := by kernel_rfl
  rw [h]; simp)
theorem f46.s0.ok (K : Nat) : SummOK Try.prog 18 1 (summOf (iter (f46.s0 K) K) f46.s0.inX f46.s0.des) f46.s0.b :=
  loop_ok mix tys_ok (f46.tabOK K) (h := f46.s0.h) (ho := f46.s0.ho) (shp := f46.s0.shp) (inX := f46.s0.inX) (des := f46.s0.des) (out := f46.s0.out) (inY := f46.s0.inY) (fuel := 400)
    (by intro st x h; unfold f46.s0.inX at h; split at h <;> simp at h; subst h; rfl)
    (by intro e st y h; unfold f46.s0.inY at h; split at h <;> simp at h <;> subst h <;> rfl)
    f46.s0.desOK (f46.s0.lok K) (f46.s0 K) (f46.s0.eq K) K
theorem f46.loops (K : Nat) : LoopsOK Try.prog 18 1 (f46.lp K) f46.c := loops_ok (by
  have h : loopsIn (f46.lp K) f46.c = [(0, f46.s0.b)] := by kernel_rfl
  rw [h]
  intro p hp
  simp only [List.mem_cons, List.not_mem_nil, or_false] at hp
  rcases hp with rfl
  · exact ⟨_, rfl, (f46.s0.ok K)⟩)
def f46.T (K : Nat) (a0 : Int) (m0 : List Int) : Option (f46.Ty1) :=
  (iter (f46.s0 K) K (a0, 0, m0, m0)).bind fun y8 =>
  some (y8.1, y8.2)
def f46.F (K : Nat) (x : f46.Ty2) : Option (f46.Ty1) := f46.T K x.1 x.2
def f46.av (x : f46.Ty2) : List VV := [.int .u8 x.1, .ptr 0 0]
def f46.bl (x : f46.Ty2) : List (Nat × Blk) := [(0, ([.ints .u8 64 x.2], 25, .norm))]
def f46.inA : VS → Option (f46.Ty2)
  | ⟨[(0, .int .u8 a0), (1, .ptr 0 0)], [(0, ([.ints .u8 64 m0], 25, .norm))], 1⟩ => some (a0, m0)
  | _ => none
def f46.o0 (y : f46.Ty1) : VS := ⟨[(0, .sl 1 0 64 64)], [(0, ([.ints .u8 64 y.1], 25, .norm)), (1, ([.ints .u8 64 y.2], 25, .norm))], 2⟩
def f46.des : ∀ α : Type, (f46.Ty1) → (VS → Option α) → Option α := (dv1 f46.o0)
def f46.out : f46.Ty1 → VS := f46.o0
def f46.inR : VS → Option (f46.Ty1)
  | ⟨[(0, .sl 1 0 64 64)], [(0, ([.ints .u8 64 z0], 25, .norm)), (1, ([.ints .u8 64 z1], 25, .norm))], 2⟩ => some (z0, z1)
  | _ => none
noncomputable def f46.E (K : Nat) : Entry := genE 1 f46.inA (f46.F K) f46.des
theorem f46.eq (K : Nat) (x : f46.Ty2) : f46.F K x = xrun (getA tys) (tabSp (f46.tab K)) Try.f46.ntmps 1 (f46.lp K) 400 f46.c ⟨initL 0 (f46.av x), f46.bl x, 1⟩ (contF (getA tys) 1 Try.f46.results.toList f46.inR) := by kernel_rfl
theorem f46.ok (K : Nat) : EntryOK Try.prog 46 (f46.E K) :=
  gen_ok mix tys_ok (f46.tabOK K) Try.func46 (by kernel_rfl : Try.f46.body = some f46.c) (by kernel_rfl) (f46.loops K) (av := f46.av) (bl := f46.bl) (out := f46.out) (fuel := 400)
    (by intro s x h; unfold f46.inA at h; split at h <;> simp at h; subst h; rfl) (fun _ => Nat.le_of_ble_eq_true rfl)
    (by intro s y h; unfold f46.inR at h; split at h <;> simp at h <;> subst h <;> rfl) (fun _ _ _ => rfl) (f46.eq K)
end Go.Proofs

namespace Go.Proofs
open Go.VM
end Go.Proofs

namespace Go.Proofs
open Go.VM
abbrev f22.Ty0 := List Int × Nat × List Int × Nat × Nat × Nat × Nat × Nat × Nat × Nat × List Int × Nat × List Int × Nat × List Int × Nat × List Int × Nat × List Int × Nat × List Int
abbrev f22.Ty1 := Nat × Nat × List Int × Nat × Nat × Nat × Nat × Nat × Nat × Nat × List Int × Nat × List Int × Nat × List Int × Nat × List Int × Nat × List Int × Nat × List Int
def f22.T (K : Nat) (a0 : Nat) (m0_0 : Nat) (m0_1 : List Int) (m2_0 : Nat) (m2_1 : Nat) (m2_2 : Nat) (m2_3 : Nat) (m2_4 : Nat) (m2_5 : Nat) (m4_0 : Nat) (m4_1 : List Int) (m6_0 : Nat) (m6_1 : List Int) (m8_0 : Nat) (m8_1 : List Int) (m10_0 : Nat) (m10_1 : List Int) (m12_0 : Nat) (m12_1 : List Int) (m14_0 : Nat) (m14_1 : List Int) : Option (f22.Ty0) :=
  bif (decide (((a0 : Nat) : Int) > 64)) then
    bif ((Nat.ble (0 + a0) m0_0 && true) && true) then
      (f18.F K (a0, a0, (subI m0_1 0 a0))).bind fun y3 =>
      (f42.F K ()).bind fun y5 =>
      (f42.F K ()).bind fun y6 =>
      (f46.F K (54, (spl [0, 0, 0, 0, 0, 0, 0, 0, 0, 0, 0, 0, 0, 0, 0, 0, 0, 0, 0, 0, 0, 0, 0, 0, 0, 0, 0, 0, 0, 0, 0, 0, 0, 0, 0, 0, 0, 0, 0, 0, 0, 0, 0, 0, 0, 0, 0, 0, 0, 0, 0, 0, 0, 0, 0, 0, 0, 0, 0, 0, 0, 0, 0, 0] 0 32 (subI y3.1 0 32)))).bind fun y7 =>
      (f15v2.F K (64, y5.1, y5.2.1, y5.2.2.1, 64, (subI y7.2 0 64), y5.2.2.2)).bind fun y8 =>
      bif ((Nat.ble (0 + m2_0) m4_0 && true) && true) then
        (f15v2.F K (m2_0, y8.2.1, y8.2.2.1, y8.2.2.2.1, m2_0, (subI m4_1 0 m2_0), y8.2.2.2.2.2.2)).bind fun y9 =>
        bif ((Nat.ble (0 + m2_1) m6_0 && true) && true) then
          (f15v2.F K (m2_1, y9.2.1, y9.2.2.1, y9.2.2.2.1, m2_1, (subI m6_1 0 m2_1), y9.2.2.2.2.2.2)).bind fun y10 =>
          bif ((Nat.ble (0 + m2_2) m8_0 && true) && true) then
            (f15v2.F K (m2_2, y10.2.1, y10.2.2.1, y10.2.2.2.1, m2_2, (subI m8_1 0 m2_2), y10.2.2.2.2.2.2)).bind fun y11 =>
            bif ((Nat.ble (0 + m2_3) m10_0 && true) && true) then
              (f15v2.F K (m2_3, y11.2.1, y11.2.2.1, y11.2.2.2.1, m2_3, (subI m10_1 0 m2_3), y11.2.2.2.2.2.2)).bind fun y12 =>
              bif ((Nat.ble (0 + m2_4) m12_0 && true) && true) then
                (f15v2.F K (m2_4, y12.2.1, y12.2.2.1, y12.2.2.2.1, m2_4, (subI m12_1 0 m2_4), y12.2.2.2.2.2.2)).bind fun y13 =>
                bif ((Nat.ble (0 + m2_5) m14_0 && true) && true) then
                  (f15v2.F K (m2_5, y13.2.1, y13.2.2.1, y13.2.2.2.1, m2_5, (subI m14_1 0 m2_5), y13.2.2.2.2.2.2)).bind fun y14 =>
                  (f16v2.F K (y14.2.1, y14.2.2.1, y14.2.2.2.1, y14.2.2.2.2.2.2)).bind fun y15 =>
                  (f46.F K (92, y7.1)).bind fun y16 =>
                  (f15v2.F K (64, y6.1, y6.2.1, y6.2.2.1, 64, (subI y16.2 0 64), y6.2.2.2)).bind fun y17 =>
                  (f15v2.F K (32, y17.2.1, y17.2.2.1, y17.2.2.2.1, 32, (subI y15.1 0 32), y17.2.2.2.2.2.2)).bind fun y18 =>
                  (f16v2.F K (y18.2.1, y18.2.2.1, y18.2.2.2.1, y18.2.2.2.2.2.2)).bind fun y19 =>
                  some (y19.1, m0_0, m0_1, m2_0, m2_1, m2_2, m2_3, m2_4, m2_5, m4_0, m4_1, m6_0, m6_1, m8_0, m8_1, m10_0, m10_1, m12_0, m12_1, m14_0, m14_1)
                else
                  none
              else
                none
            else
              none
          else
            none
        else
          none
      else
        none
    else
      none
  else
    bif ((Nat.ble (0 + a0) m0_0 && true) && (Nat.beq a0 a0)) then
      (f42.F K ()).bind fun y22 =>
      (f42.F K ()).bind fun y23 =>
      (f46.F K (54, (spl [0, 0, 0, 0, 0, 0, 0, 0, 0, 0, 0, 0, 0, 0, 0, 0, 0, 0, 0, 0, 0, 0, 0, 0, 0, 0, 0, 0, 0, 0, 0, 0, 0, 0, 0, 0, 0, 0, 0, 0, 0, 0, 0, 0, 0, 0, 0, 0, 0, 0, 0, 0, 0, 0, 0, 0, 0, 0, 0, 0, 0, 0, 0, 0] 0 (Nat.min a0 64) (subI m0_1 0 a0)))).bind fun y24 =>
      (f15v2.F K (64, y22.1, y22.2.1, y22.2.2.1, 64, (subI y24.2 0 64), y22.2.2.2)).bind fun y25 =>
      bif ((Nat.ble (0 + m2_0) m4_0 && true) && true) then
        (f15v2.F K (m2_0, y25.2.1, y25.2.2.1, y25.2.2.2.1, m2_0, (subI m4_1 0 m2_0), y25.2.2.2.2.2.2)).bind fun y26 =>
        bif ((Nat.ble (0 + m2_1) m6_0 && true) && true) then
          (f15v2.F K (m2_1, y26.2.1, y26.2.2.1, y26.2.2.2.1, m2_1, (subI m6_1 0 m2_1), y26.2.2.2.2.2.2)).bind fun y27 =>
          bif ((Nat.ble (0 + m2_2) m8_0 && true) && true) then
            (f15v2.F K (m2_2, y27.2.1, y27.2.2.1, y27.2.2.2.1, m2_2, (subI m8_1 0 m2_2), y27.2.2.2.2.2.2)).bind fun y28 =>
            bif ((Nat.ble (0 + m2_3) m10_0 && true) && true) then
              (f15v2.F K (m2_3, y28.2.1, y28.2.2.1, y28.2.2.2.1, m2_3, (subI m10_1 0 m2_3), y28.2.2.2.2.2.2)).bind fun y29 =>
              bif ((Nat.ble (0 + m2_4) m12_0 && true) && true) then
                (f15v2.F K (m2_4, y29.2.1, y29.2.2.1, y29.2.2.2.1, m2_4, (subI m12_1 0 m2_4), y29.2.2.2.2.2.2)).bind fun y30 =>
                bif ((Nat.ble (0 + m2_5) m14_0 && true) && true) then
                  (f15v2.F K (m2_5, y30.2.1, y30.2.2.1, y30.2.2.2.1, m2_5, (subI m14_1 0 m2_5), y30.2.2.2.2.2.2)).bind fun y31 =>
                  (f16v2.F K (y31.2.1, y31.2.2.1, y31.2.2.2.1, y31.2.2.2.2.2.2)).bind fun y32 =>
                  (f46.F K (92, y24.1)).bind fun y33 =>
                  (f15v2.F K (64, y23.1, y23.2.1, y23.2.2.1, 64, (subI y33.2 0 64), y23.2.2.2)).bind fun y34 =>
                  (f15v2.F K (32, y34.2.1, y34.2.2.1, y34.2.2.2.1, 32, (subI y32.1 0 32), y34.2.2.2.2.2.2)).bind fun y35 =>
                  (f16v2.F K (y35.2.1, y35.2.2.1, y35.2.2.2.1, y35.2.2.2.2.2.2)).bind fun y36 =>
                  some (y36.1, m0_0, m0_1, m2_0, m2_1, m2_2, m2_3, m2_4, m2_5, m4_0, m4_1, m6_0, m6_1, m8_0, m8_1, m10_0, m10_1, m12_0, m12_1, m14_0, m14_1)
                else
                  none
              else
                none
            else
              none
          else
            none
        else
          none
      else
        none
    else
      none
def f22.F (K : Nat) (x : f22.Ty1) : Option (f22.Ty0) := f22.T K x.1 x.2.1 x.2.2.1 x.2.2.2.1 x.2.2.2.2.1 x.2.2.2.2.2.1 x.2.2.2.2.2.2.1 x.2.2.2.2.2.2.2.1 x.2.2.2.2.2.2.2.2.1 x.2.2.2.2.2.2.2.2.2.1 x.2.2.2.2.2.2.2.2.2.2.1 x.2.2.2.2.2.2.2.2.2.2.2.1 x.2.2.2.2.2.2.2.2.2.2.2.2.1 x.2.2.2.2.2.2.2.2.2.2.2.2.2.1 x.2.2.2.2.2.2.2.2.2.2.2.2.2.2.1 x.2.2.2.2.2.2.2.2.2.2.2.2.2.2.2.1 x.2.2.2.2.2.2.2.2.2.2.2.2.2.2.2.2.1 x.2.2.2.2.2.2.2.2.2.2.2.2.2.2.2.2.2.1 x.2.2.2.2.2.2.2.2.2.2.2.2.2.2.2.2.2.2.1 x.2.2.2.2.2.2.2.2.2.2.2.2.2.2.2.2.2.2.2.1 x.2.2.2.2.2.2.2.2.2.2.2.2.2.2.2.2.2.2.2.2
def f22.av (x : f22.Ty1) : List VV := [.vw true 0 0 x.1 1, .vw true 2 0 6 3]
def f22.bl (x : f22.Ty1) : List (Nat × Blk) := [(0, ([.ints .u8 x.2.1 x.2.2.1], 0, .ro)), (2, ([.vw true 4 0 x.2.2.2.1 5, .vw true 6 0 x.2.2.2.2.1 7, .vw true 8 0 x.2.2.2.2.2.1 9, .vw true 10 0 x.2.2.2.2.2.2.1 11, .vw true 12 0 x.2.2.2.2.2.2.2.1 13, .vw true 14 0 x.2.2.2.2.2.2.2.2.1 15], 0, .ro)), (4, ([.ints .u8 x.2.2.2.2.2.2.2.2.2.1 x.2.2.2.2.2.2.2.2.2.2.1], 0, .ro)), (6, ([.ints .u8 x.2.2.2.2.2.2.2.2.2.2.2.1 x.2.2.2.2.2.2.2.2.2.2.2.2.1], 0, .ro)), (8, ([.ints .u8 x.2.2.2.2.2.2.2.2.2.2.2.2.2.1 x.2.2.2.2.2.2.2.2.2.2.2.2.2.2.1], 0, .ro)), (10, ([.ints .u8 x.2.2.2.2.2.2.2.2.2.2.2.2.2.2.2.1 x.2.2.2.2.2.2.2.2.2.2.2.2.2.2.2.2.1], 0, .ro)), (12, ([.ints .u8 x.2.2.2.2.2.2.2.2.2.2.2.2.2.2.2.2.2.1 x.2.2.2.2.2.2.2.2.2.2.2.2.2.2.2.2.2.2.1], 0, .ro)), (14, ([.ints .u8 x.2.2.2.2.2.2.2.2.2.2.2.2.2.2.2.2.2.2.2.1 x.2.2.2.2.2.2.2.2.2.2.2.2.2.2.2.2.2.2.2.2], 0, .ro))]
def f22.inA : VS → Option (f22.Ty1)
  | ⟨[(0, .vw true 0 0 a0 1), (1, .vw true 2 0 6 3)], [(0, ([.ints .u8 m0_0 m0_1], 0, .ro)), (2, ([.vw true 4 0 m2_0 5, .vw true 6 0 m2_1 7, .vw true 8 0 m2_2 9, .vw true 10 0 m2_3 11, .vw true 12 0 m2_4 13, .vw true 14 0 m2_5 15], 0, .ro)), (4, ([.ints .u8 m4_0 m4_1], 0, .ro)), (6, ([.ints .u8 m6_0 m6_1], 0, .ro)), (8, ([.ints .u8 m8_0 m8_1], 0, .ro)), (10, ([.ints .u8 m10_0 m10_1], 0, .ro)), (12, ([.ints .u8 m12_0 m12_1], 0, .ro)), (14, ([.ints .u8 m14_0 m14_1], 0, .ro))], 16⟩ => some (a0, m0_0, m0_1, m2_0, m2_1, m2_2, m2_3, m2_4, m2_5, m4_0, m4_1, m6_0, m6_1, m8_0, m8_1, m10_0, m10_1, m12_0, m12_1, m14_0, m14_1)
  | _ => none
def f22.o0 (y : f22.Ty0) : VS := ⟨[(0, .agg [.ints .u8 32 y.1])], [(0, ([.ints .u8 y.2.1 y.2.2.1], 0, .ro)), (2, ([.vw true 4 0 y.2.2.2.1 5, .vw true 6 0 y.2.2.2.2.1 7, .vw true 8 0 y.2.2.2.2.2.1 9, .vw true 10 0 y.2.2.2.2.2.2.1 11, .vw true 12 0 y.2.2.2.2.2.2.2.1 13, .vw true 14 0 y.2.2.2.2.2.2.2.2.1 15], 0, .ro)), (4, ([.ints .u8 y.2.2.2.2.2.2.2.2.2.1 y.2.2.2.2.2.2.2.2.2.2.1], 0, .ro)), (6, ([.ints .u8 y.2.2.2.2.2.2.2.2.2.2.2.1 y.2.2.2.2.2.2.2.2.2.2.2.2.1], 0, .ro)), (8, ([.ints .u8 y.2.2.2.2.2.2.2.2.2.2.2.2.2.1 y.2.2.2.2.2.2.2.2.2.2.2.2.2.2.1], 0, .ro)), (10, ([.ints .u8 y.2.2.2.2.2.2.2.2.2.2.2.2.2.2.2.1 y.2.2.2.2.2.2.2.2.2.2.2.2.2.2.2.2.1], 0, .ro)), (12, ([.ints .u8 y.2.2.2.2.2.2.2.2.2.2.2.2.2.2.2.2.2.1 y.2.2.2.2.2.2.2.2.2.2.2.2.2.2.2.2.2.2.1], 0, .ro)), (14, ([.ints .u8 y.2.2.2.2.2.2.2.2.2.2.2.2.2.2.2.2.2.2.2.1 y.2.2.2.2.2.2.2.2.2.2.2.2.2.2.2.2.2.2.2.2], 0, .ro))], 16⟩
def f22.inR : VS → Option (f22.Ty0)
  | ⟨[(0, .agg [.ints .u8 32 y])], [(0, ([.ints .u8 z0_0 z0_1], 0, .ro)), (2, ([.vw true 4 0 z2_0 5, .vw true 6 0 z2_1 7, .vw true 8 0 z2_2 9, .vw true 10 0 z2_3 11, .vw true 12 0 z2_4 13, .vw true 14 0 z2_5 15], 0, .ro)), (4, ([.ints .u8 z4_0 z4_1], 0, .ro)), (6, ([.ints .u8 z6_0 z6_1], 0, .ro)), (8, ([.ints .u8 z8_0 z8_1], 0, .ro)), (10, ([.ints .u8 z10_0 z10_1], 0, .ro)), (12, ([.ints .u8 z12_0 z12_1], 0, .ro)), (14, ([.ints .u8 z14_0 z14_1], 0, .ro))], 16⟩ => some (y, z0_0, z0_1, z2_0, z2_1, z2_2, z2_3, z2_4, z2_5, z4_0, z4_1, z6_0, z6_1, z8_0, z8_1, z10_0, z10_1, z12_0, z12_1, z14_0, z14_1)
  | _ => none
noncomputable def f22.E (K : Nat) : Entry := genE 16 f22.inA (f22.F K) (dv1 f22.o0)
theorem f22.ok (K : Nat) : EntryOK Try.prog 22 (f22.E K) := gen_ok mix tys_ok (sp := tabSp [(18, (viewE [(0, .u8)] (f18.E K))), (42, (f42.E K)), (46, (f46.E K)), (15, (viewE [(1, .u8)] (f15v2.E K))), (16, (f16v2.E K))]) (tab_ok ((tab_cons (view_ok (f18.ok K)) (tab_cons (f42.ok K) (tab_cons (f46.ok K) (tab_cons (view_ok (f15v2.ok K)) (tab_cons (f16v2.ok K) tab_nil))))))) Try.func22 (c := bodyOf Try.f22) (by kernel_rfl) (by kernel_rfl) (loops_none (lp := lpNone) (by kernel_rfl)) (av := f22.av) (bl := f22.bl) (inR := f22.inR) (out := f22.o0) (fuel := 400)
  (by intro s x h; unfold f22.inA at h; split at h <;> simp at h; subst h; rfl) (fun _ => Nat.le_of_ble_eq_true rfl)
  (by intro s y h; unfold f22.inR at h; split at h <;> simp at h <;> subst h <;> rfl) (fun _ _ _ => rfl) (fun _ => by kernel_rfl)
end Go.Proofs

namespace Go.Proofs
open Go.VM
theorem sum_length (m : List Int) : (Sh.sum m).length = 32 := digest_length _
theorem sum_octets (m : List Int) : octets (Sh.sum m) := digest_octets _
theorem f18.spec (K n : Nat) (m : List Int) (hm : m.length = n) (ho : octets m) (hn : n ≤ 1000000000000) (hK : 300 + n < K) : f18.F K (n, n, m) = some (Sh.sum m, n, m) := by
  simp only [f18.F, f18.T]
  rw [show f42.F K () = some ([0, 0, 0, 0, 0, 0, 0, 0, 0, 0, 0, 0, 0, 0, 0, 0, 0, 0, 0, 0, 0, 0, 0, 0, 0, 0, 0, 0, 0, 0, 0, 0, 0, 0, 0, 0, 0, 0, 0, 0, 0, 0, 0, 0, 0, 0, 0, 0, 0, 0, 0, 0, 0, 0, 0, 0, 0, 0, 0, 0, 0, 0, 0, 0], 0, 0, Sh.init) from rfl, bind_s]
  simp only []
  rw [Nat.zero_add, ble_true (Nat.le_refl n), Bool.and_self, Bool.and_self, cond_t, subI_self _ hm]
  obtain ⟨b', h', s', e, R⟩ := f40.spec K [] n m hm ho hn _ _ _ Sh.rep0 (by omega)
  rw [show f40.F K ([0, 0, 0, 0, 0, 0, 0, 0, 0, 0, 0, 0, 0, 0, 0, 0, 0, 0, 0, 0, 0, 0, 0, 0, 0, 0, 0, 0, 0, 0, 0, 0, 0, 0, 0, 0, 0, 0, 0, 0, 0, 0, 0, 0, 0, 0, 0, 0, 0, 0, 0, 0, 0, 0, 0, 0, 0, 0, 0, 0, 0, 0, 0, 0], 0, 0, n, Sh.init, n, m) = _ from e, bind_s]
  simp only []
  rw [f16v2.spec K _ _ _ _ R (by omega), bind_s]
  rfl
theorem f15v2.spec (K : Nat) (m : List Int) (n : Nat) (l : List Int) (hl : l.length = n) (ho : octets l) (hn : n ≤ 1000000000000) (b s : List Int) (h : Int) (R : Sh.Rep m b h s) (hK : 64 + n < K) :
    ∃ b' h' s', f15v2.F K (n, b, h, ((m.length % 18446744073709551616 : Nat) : Int), n, l, s) = some (0, b', h', (((m ++ l).length % 18446744073709551616 : Nat) : Int), n, l, s') ∧ Sh.Rep (m ++ l) b' h' s' := by
  obtain ⟨b', h', s', e, R'⟩ := f40.spec K m n l hl ho hn b s h R hK
  refine ⟨b', h', s', ?_, R'⟩
  simp only [f15v2.F, f15v2.T]
  rw [Nat.zero_add, ble_true (Nat.le_refl n), Bool.and_self, Bool.and_self, cond_t, subI_self _ hl, e, bind_s]
theorem list_getD {l m : List Int} (h : l.length = m.length) (g : ∀ i, i < l.length → l.getD i 0 = m.getD i 0) : l = m := by
  apply List.ext_getElem h
  intro i h1 h2
  have := g i h1
  simpa [List.getD_eq_getElem?_getD, h1, h2] using this
def Sh.xr (by' : Int) (k : List Int) : List Int := k.map fun x => bits .xor .u8 x by'
theorem wrap8 (z : Int) : IntKind.wrap .u8 z = z % 256 := by simp [IntKind.wrap, IntKind.signed, IntKind.bits]
theorem xor_octet (x y : Int) : 0 ≤ bits .xor .u8 x y ∧ bits .xor .u8 x y < 256 := by
  show 0 ≤ IntKind.wrap .u8 _ ∧ IntKind.wrap .u8 _ < 256
  rw [wrap8]
  omega
theorem xr_length (y : Int) (k : List Int) : (Sh.xr y k).length = k.length := by simp [Sh.xr]
theorem xr_octets (y : Int) (k : List Int) : octets (Sh.xr y k) := by
  intro x hx
  obtain ⟨z, _, rfl⟩ := List.mem_map.1 hx
  exact xor_octet z y
theorem f46.spec (K : Nat) (y : Int) (k : List Int) (hk : k.length = 64) (hK : 64 < K) : f46.F K (y, k) = some (k, Sh.xr y k) := by
  have := iter_for (stp := f46.s0 K) (N := 64) (fun i => (y, (i : Int), k, Sh.xr y (k.take i) ++ k.drop i)) (y := some (k, Sh.xr y k)) ?_ ?_ hK
  · simp only [f46.F, f46.T]
    rw [show iter (f46.s0 K) K (y, 0, k, k) = _ from this, bind_s]
  · intro i hi rec
    simp only [f46.s0, f46.s0t]
    have hd : List.getD (Sh.xr y (k.take i) ++ k.drop i) i 0 = k.getD i 0 := by
      rw [List.getD_eq_getElem?_getD, List.getElem?_append_right (by rw [xr_length, List.length_take]; omega), xr_length, List.length_take, List.getElem?_drop, List.getD_eq_getElem?_getD]
      congr 2; omega
    rw [decide_eq_true (show (i : Int) < 64 by omega), cond_t, decide_eq_true (show (0 : Int) ≤ (i : Int) ∧ (i : Int) < 64 by omega), cond_t, cond_t, Int.toNat_natCast, hd, wrap_i _ (by omega) (by omega), setD_eq_set _ _ _ (by rw [List.length_append, xr_length, List.length_take, List.length_drop]; omega)]
    congr 4
    have e1 : k.drop i = k.getD i 0 :: k.drop (i + 1) := by
      rw [List.drop_eq_getElem_cons (by omega)]; simp [List.getD_eq_getElem?_getD, show i < k.length by omega]
    have e2 : k.take (i + 1) = k.take i ++ [k.getD i 0] := by
      rw [List.take_add_one, List.getElem?_eq_getElem (by omega)]; simp [List.getD_eq_getElem?_getD, show i < k.length by omega]
    rw [e2, e1, List.set_append, if_neg (by rw [xr_length, List.length_take]; omega)]
    have e3 : i - (Sh.xr y (k.take i)).length = 0 := by rw [xr_length, List.length_take]; omega
    rw [e3]
    simp [Sh.xr]
  · intro rec
    simp only [f46.s0, f46.s0t]
    rw [decide_eq_false (show ¬ (((64 : Nat) : Int)) < 64 by omega), cond_f, List.take_of_length_le (by omega), List.drop_of_length_le (by omega), List.append_nil]
def Sh.key (k : List Int) : List Int := padT (if 64 < k.length then Sh.sum k else k) 64
def Sh.mac (k m : List Int) : List Int := Sh.sum (Sh.xr 92 (Sh.key k) ++ Sh.sum (Sh.xr 54 (Sh.key k) ++ m))
theorem mac_length (k m : List Int) : (Sh.mac k m).length = 32 := sum_length _
theorem mac_octets (k m : List Int) : octets (Sh.mac k m) := sum_octets _
theorem spl_key (k : List Int) (n : Nat) (hk : k.length = n) (hn : n ≤ 64) :
    spl [0, 0, 0, 0, 0, 0, 0, 0, 0, 0, 0, 0, 0, 0, 0, 0, 0, 0, 0, 0, 0, 0, 0, 0, 0, 0, 0, 0, 0, 0, 0, 0, 0, 0, 0, 0, 0, 0, 0, 0, 0, 0, 0, 0, 0, 0, 0, 0, 0, 0, 0, 0, 0, 0, 0, 0, 0, 0, 0, 0, 0, 0, 0, 0] 0 n k = padT k 64 := by
  have hz : ([0, 0, 0, 0, 0, 0, 0, 0, 0, 0, 0, 0, 0, 0, 0, 0, 0, 0, 0, 0, 0, 0, 0, 0, 0, 0, 0, 0, 0, 0, 0, 0, 0, 0, 0, 0, 0, 0, 0, 0, 0, 0, 0, 0, 0, 0, 0, 0, 0, 0, 0, 0, 0, 0, 0, 0, 0, 0, 0, 0, 0, 0, 0, 0] : List Int) = List.replicate 64 0 := rfl
  rw [hz]
  refine list_getD (by simp [spl, padT]; omega) fun i hi => ?_
  have hi' : i < 64 := by simp [spl, padT] at hi; omega
  rw [getD_spl, getD_padT, if_pos hi']
  rw [if_neg (by omega)]
  by_cases h : i < n
  · rw [if_pos (by omega), Nat.sub_zero]
  · rw [if_neg (by omega)]
    simp only [List.getD_eq_getElem?_getD]
    rw [List.getElem?_eq_none (show k.length ≤ i by omega), List.getElem?_replicate, if_pos hi']
    rfl
theorem f22.spec (K n : Nat) (k : List Int) (p0 : Nat) (l0 : List Int) (p1 : Nat) (l1 : List Int) (p2 : Nat) (l2 : List Int) (p3 : Nat) (l3 : List Int) (p4 : Nat) (l4 : List Int) (p5 : Nat) (l5 : List Int) (hk : k.length = n) (hko : octets k) (hn : n ≤ 1000000000) (e0 : l0.length = p0) (o0 : octets l0) (z0 : p0 ≤ 1000000000) (e1 : l1.length = p1) (o1 : octets l1) (z1 : p1 ≤ 1000000000) (e2 : l2.length = p2) (o2 : octets l2) (z2 : p2 ≤ 1000000000) (e3 : l3.length = p3) (o3 : octets l3) (z3 : p3 ≤ 1000000000) (e4 : l4.length = p4) (o4 : octets l4) (z4 : p4 ≤ 1000000000) (e5 : l5.length = p5) (o5 : octets l5) (z5 : p5 ≤ 1000000000) (hK : 400 + n + p0 + p1 + p2 + p3 + p4 + p5 < K) :
    f22.F K (n, n, k, p0, p1, p2, p3, p4, p5, p0, l0, p1, l1, p2, l2, p3, l3, p4, l4, p5, l5) = some (Sh.mac k (l0 ++ l1 ++ l2 ++ l3 ++ l4 ++ l5), n, k, p0, p1, p2, p3, p4, p5, p0, l0, p1, l1, p2, l2, p3, l3, p4, l4, p5, l5) := by
  have h42 : f42.F K () = some ([0, 0, 0, 0, 0, 0, 0, 0, 0, 0, 0, 0, 0, 0, 0, 0, 0, 0, 0, 0, 0, 0, 0, 0, 0, 0, 0, 0, 0, 0, 0, 0, 0, 0, 0, 0, 0, 0, 0, 0, 0, 0, 0, 0, 0, 0, 0, 0, 0, 0, 0, 0, 0, 0, 0, 0, 0, 0, 0, 0, 0, 0, 0, 0], 0, 0, Sh.init) := rfl
  simp only [f22.F, f22.T]
  by_cases h : 64 < n
  · rw [decide_eq_true (show ((n : Nat) : Int) > 64 by omega), cond_t, Nat.zero_add, ble_true (Nat.le_refl n), Bool.and_self, Bool.and_self, cond_t, subI_self _ hk, f18.spec K n k hk hko (by omega) (by omega), bind_s, h42, bind_s, bind_s]
    simp only []
    rw [subI_self _ (sum_length k), spl_key _ 32 (sum_length k) (by omega)]
    rw [f46.spec K 54 (padT (Sh.sum k) 64) (padT_length _ _) (by omega), bind_s]
    simp only []
    rw [subI_self _ (show (Sh.xr 54 (padT (Sh.sum k) 64)).length = 64 by rw [xr_length, padT_length])]
    obtain ⟨b1, h1, s1, E1, R1⟩ := f15v2.spec K [] 64 (Sh.xr 54 (padT (Sh.sum k) 64)) (by rw [xr_length, padT_length]) (xr_octets _ _) (by omega) _ _ _ Sh.rep0 (by omega)
    rw [show f15v2.F K (64, [0, 0, 0, 0, 0, 0, 0, 0, 0, 0, 0, 0, 0, 0, 0, 0, 0, 0, 0, 0, 0, 0, 0, 0, 0, 0, 0, 0, 0, 0, 0, 0, 0, 0, 0, 0, 0, 0, 0, 0, 0, 0, 0, 0, 0, 0, 0, 0, 0, 0, 0, 0, 0, 0, 0, 0, 0, 0, 0, 0, 0, 0, 0, 0], 0, 0, 64, Sh.xr 54 (padT (Sh.sum k) 64), Sh.init) = _ from E1, bind_s]
    simp only []
    rw [Nat.zero_add, ble_true (Nat.le_refl p0), Bool.and_self, Bool.and_self, cond_t, subI_self _ e0]
    obtain ⟨c0, h2_0, s2_0, g0, S0⟩ := f15v2.spec K _ p0 l0 e0 o0 (by omega) _ _ _ R1 (by omega)
    rw [g0, bind_s]
    simp only []
    rw [Nat.zero_add, ble_true (Nat.le_refl p1), Bool.and_self, Bool.and_self, cond_t, subI_self _ e1]
    obtain ⟨c1, h2_1, s2_1, g1, S1⟩ := f15v2.spec K _ p1 l1 e1 o1 (by omega) _ _ _ S0 (by omega)
    rw [g1, bind_s]
    simp only []
    rw [Nat.zero_add, ble_true (Nat.le_refl p2), Bool.and_self, Bool.and_self, cond_t, subI_self _ e2]
    obtain ⟨c2, h2_2, s2_2, g2, S2⟩ := f15v2.spec K _ p2 l2 e2 o2 (by omega) _ _ _ S1 (by omega)
    rw [g2, bind_s]
    simp only []
    rw [Nat.zero_add, ble_true (Nat.le_refl p3), Bool.and_self, Bool.and_self, cond_t, subI_self _ e3]
    obtain ⟨c3, h2_3, s2_3, g3, S3⟩ := f15v2.spec K _ p3 l3 e3 o3 (by omega) _ _ _ S2 (by omega)
    rw [g3, bind_s]
    simp only []
    rw [Nat.zero_add, ble_true (Nat.le_refl p4), Bool.and_self, Bool.and_self, cond_t, subI_self _ e4]
    obtain ⟨c4, h2_4, s2_4, g4, S4⟩ := f15v2.spec K _ p4 l4 e4 o4 (by omega) _ _ _ S3 (by omega)
    rw [g4, bind_s]
    simp only []
    rw [Nat.zero_add, ble_true (Nat.le_refl p5), Bool.and_self, Bool.and_self, cond_t, subI_self _ e5]
    obtain ⟨c5, h2_5, s2_5, g5, S5⟩ := f15v2.spec K _ p5 l5 e5 o5 (by omega) _ _ _ S4 (by omega)
    rw [g5, bind_s]
    simp only []
    rw [f16v2.spec K _ _ _ _ S5 (by omega), bind_s]
    simp only []
    rw [f46.spec K 92 (padT (Sh.sum k) 64) (padT_length _ _) (by omega), bind_s]
    simp only []
    rw [subI_self _ (show (Sh.xr 92 (padT (Sh.sum k) 64)).length = 64 by rw [xr_length, padT_length])]
    obtain ⟨b3, h3, s3, E3, R3⟩ := f15v2.spec K [] 64 (Sh.xr 92 (padT (Sh.sum k) 64)) (by rw [xr_length, padT_length]) (xr_octets _ _) (by omega) _ _ _ Sh.rep0 (by omega)
    rw [show f15v2.F K (64, [0, 0, 0, 0, 0, 0, 0, 0, 0, 0, 0, 0, 0, 0, 0, 0, 0, 0, 0, 0, 0, 0, 0, 0, 0, 0, 0, 0, 0, 0, 0, 0, 0, 0, 0, 0, 0, 0, 0, 0, 0, 0, 0, 0, 0, 0, 0, 0, 0, 0, 0, 0, 0, 0, 0, 0, 0, 0, 0, 0, 0, 0, 0, 0], 0, 0, 64, Sh.xr 92 (padT (Sh.sum k) 64), Sh.init) = _ from E3, bind_s]
    simp only []
    rw [subI_self _ (sum_length _)]
    obtain ⟨b4, h4, s4, E4, R4⟩ := f15v2.spec K _ 32 _ (sum_length ([] ++ Sh.xr 54 (padT (Sh.sum k) 64) ++ l0 ++ l1 ++ l2 ++ l3 ++ l4 ++ l5)) (sum_octets _) (by omega) _ _ _ R3 (by omega)
    rw [E4, bind_s]
    simp only []
    rw [f16v2.spec K _ _ _ _ R4 (by omega), bind_s]
    simp only [Sh.mac, Sh.key, if_pos (show 64 < k.length by omega), List.nil_append, List.append_assoc]
  · rw [decide_eq_false (show ¬ ((n : Nat) : Int) > 64 by omega), cond_f, Nat.zero_add, ble_true (Nat.le_refl n), show Nat.beq n n = true from by simp, Bool.and_self, Bool.and_self, cond_t, h42, bind_s, bind_s]
    simp only []
    rw [subI_self _ hk, show Nat.min n 64 = n from Nat.min_eq_left (by omega), spl_key _ n hk (by omega)]
    rw [f46.spec K 54 (padT k 64) (padT_length _ _) (by omega), bind_s]
    simp only []
    rw [subI_self _ (show (Sh.xr 54 (padT k 64)).length = 64 by rw [xr_length, padT_length])]
    obtain ⟨b1, h1, s1, E1, R1⟩ := f15v2.spec K [] 64 (Sh.xr 54 (padT k 64)) (by rw [xr_length, padT_length]) (xr_octets _ _) (by omega) _ _ _ Sh.rep0 (by omega)
    rw [show f15v2.F K (64, [0, 0, 0, 0, 0, 0, 0, 0, 0, 0, 0, 0, 0, 0, 0, 0, 0, 0, 0, 0, 0, 0, 0, 0, 0, 0, 0, 0, 0, 0, 0, 0, 0, 0, 0, 0, 0, 0, 0, 0, 0, 0, 0, 0, 0, 0, 0, 0, 0, 0, 0, 0, 0, 0, 0, 0, 0, 0, 0, 0, 0, 0, 0, 0], 0, 0, 64, Sh.xr 54 (padT k 64), Sh.init) = _ from E1, bind_s]
    simp only []
    rw [Nat.zero_add, ble_true (Nat.le_refl p0), Bool.and_self, Bool.and_self, cond_t, subI_self _ e0]
    obtain ⟨c0, h2_0, s2_0, g0, S0⟩ := f15v2.spec K _ p0 l0 e0 o0 (by omega) _ _ _ R1 (by omega)
    rw [g0, bind_s]
    simp only []
    rw [Nat.zero_add, ble_true (Nat.le_refl p1), Bool.and_self, Bool.and_self, cond_t, subI_self _ e1]
    obtain ⟨c1, h2_1, s2_1, g1, S1⟩ := f15v2.spec K _ p1 l1 e1 o1 (by omega) _ _ _ S0 (by omega)
    rw [g1, bind_s]
    simp only []
    rw [Nat.zero_add, ble_true (Nat.le_refl p2), Bool.and_self, Bool.and_self, cond_t, subI_self _ e2]
    obtain ⟨c2, h2_2, s2_2, g2, S2⟩ := f15v2.spec K _ p2 l2 e2 o2 (by omega) _ _ _ S1 (by omega)
    rw [g2, bind_s]
    simp only []
    rw [Nat.zero_add, ble_true (Nat.le_refl p3), Bool.and_self, Bool.and_self, cond_t, subI_self _ e3]
    obtain ⟨c3, h2_3, s2_3, g3, S3⟩ := f15v2.spec K _ p3 l3 e3 o3 (by omega) _ _ _ S2 (by omega)
    rw [g3, bind_s]
    simp only []
    rw [Nat.zero_add, ble_true (Nat.le_refl p4), Bool.and_self, Bool.and_self, cond_t, subI_self _ e4]
    obtain ⟨c4, h2_4, s2_4, g4, S4⟩ := f15v2.spec K _ p4 l4 e4 o4 (by omega) _ _ _ S3 (by omega)
    rw [g4, bind_s]
    simp only []
    rw [Nat.zero_add, ble_true (Nat.le_refl p5), Bool.and_self, Bool.and_self, cond_t, subI_self _ e5]
    obtain ⟨c5, h2_5, s2_5, g5, S5⟩ := f15v2.spec K _ p5 l5 e5 o5 (by omega) _ _ _ S4 (by omega)
    rw [g5, bind_s]
    simp only []
    rw [f16v2.spec K _ _ _ _ S5 (by omega), bind_s]
    simp only []
    rw [f46.spec K 92 (padT k 64) (padT_length _ _) (by omega), bind_s]
    simp only []
    rw [subI_self _ (show (Sh.xr 92 (padT k 64)).length = 64 by rw [xr_length, padT_length])]
    obtain ⟨b3, h3, s3, E3, R3⟩ := f15v2.spec K [] 64 (Sh.xr 92 (padT k 64)) (by rw [xr_length, padT_length]) (xr_octets _ _) (by omega) _ _ _ Sh.rep0 (by omega)
    rw [show f15v2.F K (64, [0, 0, 0, 0, 0, 0, 0, 0, 0, 0, 0, 0, 0, 0, 0, 0, 0, 0, 0, 0, 0, 0, 0, 0, 0, 0, 0, 0, 0, 0, 0, 0, 0, 0, 0, 0, 0, 0, 0, 0, 0, 0, 0, 0, 0, 0, 0, 0, 0, 0, 0, 0, 0, 0, 0, 0, 0, 0, 0, 0, 0, 0, 0, 0], 0, 0, 64, Sh.xr 92 (padT k 64), Sh.init) = _ from E3, bind_s]
    simp only []
    rw [subI_self _ (sum_length _)]
    obtain ⟨b4, h4, s4, E4, R4⟩ := f15v2.spec K _ 32 _ (sum_length ([] ++ Sh.xr 54 (padT k 64) ++ l0 ++ l1 ++ l2 ++ l3 ++ l4 ++ l5)) (sum_octets _) (by omega) _ _ _ R3 (by omega)
    rw [E4, bind_s]
    simp only []
    rw [f16v2.spec K _ _ _ _ R4 (by omega), bind_s]
    simp only [Sh.mac, Sh.key, if_neg (show ¬ 64 < k.length by omega), List.nil_append, List.append_assoc]
end Go.Proofs

namespace Go.Proofs
open Go.VM
abbrev bv (x : Int) : BitVec 32 := BitVec.ofInt 32 x
theorem wrap_32n (n : Nat) (h : n < 4294967296) : IntKind.wrap .u32 (n : Int) = (n : Int) := by
  simp [IntKind.wrap, IntKind.signed, IntKind.bits]; omega
theorem bits_and (x y : Int) : bits .and .u32 x y = (((bv x &&& bv y).toNat : Nat) : Int) := wrap_32n _ (bv x &&& bv y).isLt
theorem bits_or (x y : Int) : bits .or .u32 x y = (((bv x ||| bv y).toNat : Nat) : Int) := wrap_32n _ (bv x ||| bv y).isLt
def Rf.round (x : Int) (n : Nat) : Int := bits .or .u32 (shiftI .shr .u32 x (n : Int)) (shiftI .shl .u32 x ((32 - n : Nat) : Int))
def Rf.s0 (x : Int) : Int := bits .xor .u32 (bits .xor .u32 (Rf.round x 7) (Rf.round x 18)) (Int.fdiv x (2 ^ 3))
def Rf.s1 (x : Int) : Int := bits .xor .u32 (bits .xor .u32 (Rf.round x 17) (Rf.round x 19)) (Int.fdiv x (2 ^ 10))
def Rf.w (b : List Int) : Nat → Int
  | t => if t < 16 then IntKind.wrap .u32 ((tv (subI b (4 * t) 4) : Nat) : Int)
    else if h : 16 ≤ t then IntKind.wrap .u32 ((IntKind.wrap .u32 ((IntKind.wrap .u32 (Rf.w b (t - 16) + Rf.w b (t - 7))) + Rf.s0 (Rf.w b (t - 15)))) + Rf.s1 (Rf.w b (t - 2)))
    else 0
termination_by t => t
def Rf.step (b : List Int) (t : Nat) (l : List Int) : List Int :=
  let a := List.getD l 0 0
  let e := List.getD l 4 0
  let t1 := IntKind.wrap .u32 ((IntKind.wrap .u32 ((IntKind.wrap .u32 ((IntKind.wrap .u32 ((List.getD l 7 0) + (bits .xor .u32 (bits .xor .u32 (Rf.round e 6) (Rf.round e 11)) (Rf.round e 25)))) + (bits .xor .u32 (bits .and .u32 e (List.getD l 5 0)) (bits .and .u32 (bits .xor .u32 4294967295 e) (List.getD l 6 0))))) + (List.getD Sh.consts t 0))) + Rf.w b t)
  [IntKind.wrap .u32 (t1 + (IntKind.wrap .u32 ((bits .xor .u32 (bits .xor .u32 (Rf.round a 2) (Rf.round a 13)) (Rf.round a 22)) + (bits .or .u32 (bits .or .u32 (bits .and .u32 a (List.getD l 1 0)) (bits .and .u32 a (List.getD l 2 0))) (bits .and .u32 (List.getD l 1 0) (List.getD l 2 0)))))), a, List.getD l 1 0, List.getD l 2 0, IntKind.wrap .u32 (List.getD l 3 0 + t1), e, List.getD l 5 0, List.getD l 6 0]
def Rf.rounds (s b : List Int) : Nat → List Int
  | 0 => s
  | t + 1 => Rf.step b t (Rf.rounds s b t)
end Go.Proofs

namespace Go.Proofs
open Go.VM
end Go.Proofs

namespace Go.Proofs
open Go.VM
end Go.Proofs

namespace Go.Proofs
open Go.VM
end Go.Proofs

namespace Go.Proofs
open Go.VM
theorem getD_oct {b : List Int} (ho : octets b) (i : Nat) : ∃ n : Nat, n < 256 ∧ b.getD i 0 = (n : Int) := by
  rw [List.getD_eq_getElem?_getD]
  cases e : b[i]? with
  | none => exact ⟨0, by decide, rfl⟩
  | some y => obtain ⟨h1, h2⟩ := ho y (List.mem_of_getElem? e); exact ⟨y.toNat, by omega, by simp; omega⟩
def Rf.tab (b : List Int) (i : Nat) : List Int := (List.range 64).map fun k => if k < i then Rf.w b k else 0
end Go.Proofs

namespace Go.Proofs
open Go.VM
abbrev f29.Ty0 := Int × Int × List Int × List Int × List Int × List Int
def f29.k0 : ByteArray := ByteArray.mk #[119, 111, 114, 107]
def f29.T (K : Nat) (a0_0 : Int) (_a0_1 : Int) (a0_2 : List Int) (a1 : List Int) (a2 : List Int) (a3 : List Int) : Option (Bool) :=
  bif (decide (a0_0 > 12)) then
    some false
  else
    (f50.F K (f29.k0, 32, 16, 16, 32, 32, (subI a0_2 0 32), 16, (subI a1 0 16), 16, (subI a2 0 16), 32, (subI a3 0 32))).bind fun y2 =>
    bif decide (0 ≤ a0_0) then
      some ((bits .and .u32 (bits .or .u32 (IntKind.wrap .u32 ((IntKind.wrap .u32 (List.getD y2.1 30 0)) * 2 ^ 8)) (IntKind.wrap .u32 (List.getD y2.1 31 0))) (IntKind.wrap .u32 ((shiftI .shl .u32 1 a0_0) - 1))) == 0)
    else
      none
def f29.F (K : Nat) (x : f29.Ty0) : Option (Bool) := f29.T K x.1 x.2.1 x.2.2.1 x.2.2.2.1 x.2.2.2.2.1 x.2.2.2.2.2
def f29.av (x : f29.Ty0) : List VV := [.agg [.int .u8 x.1, .int .u64 x.2.1, .ints .u8 32 x.2.2.1], .agg [.ints .u8 16 x.2.2.2.1], .agg [.ints .u8 16 x.2.2.2.2.1], .agg [.ints .u8 32 x.2.2.2.2.2]]
def f29.bl (_x : f29.Ty0) : List (Nat × Blk) := []
def f29.inA : VS → Option (f29.Ty0)
  | ⟨[(0, .agg [.int .u8 a0_0, .int .u64 a0_1, .ints .u8 32 a0_2]), (1, .agg [.ints .u8 16 a1]), (2, .agg [.ints .u8 16 a2]), (3, .agg [.ints .u8 32 a3])], [], 0⟩ => some (a0_0, a0_1, a0_2, a1, a2, a3)
  | _ => none
def f29.o0 (y : Bool) : VS := ⟨[(0, .bool y)], [], 0⟩
def f29.inR : VS → Option (Bool)
  | ⟨[(0, .bool y)], [], 0⟩ => some y
  | _ => none
noncomputable def f29.E (K : Nat) : Entry := genE 0 f29.inA (f29.F K) (dv1 f29.o0)
theorem f29.ok (K : Nat) : EntryOK Try.prog 29 (f29.E K) := gen_ok mix tys_ok (sp := tabSp [(50, (rowsE 1 .u8 (f50.E K)))]) (tab_ok ((tab_cons (rows_ok (f50.ok K)) tab_nil))) Try.func29 (c := bodyOf Try.f29) (by kernel_rfl) (by kernel_rfl) (loops_none (lp := lpNone) (by kernel_rfl)) (av := f29.av) (bl := f29.bl) (inR := f29.inR) (out := f29.o0) (fuel := 400)
  (by intro s x h; unfold f29.inA at h; split at h <;> simp at h; subst h; rfl) (fun _ => Nat.le_of_ble_eq_true rfl)
  (by intro s y h; unfold f29.inR at h; split at h <;> simp at h <;> subst h <;> rfl) (fun _ _ _ => rfl) (fun _ => by kernel_rfl)
end Go.Proofs

namespace Go.Proofs
open Go.VM
abbrev f24.Ty0 := List Int × Int × Int × List Int × List Int × Int
abbrev f24.Ty1 := Int × Int × List Int × Int
def f24.T (K : Nat) (a0 : List Int) (a1 : Int) (a2 : Int) (a3 : List Int) (a4 : List Int) (a5 : Int) : Option (f24.Ty1) :=
  bif (decide (a2 > 12)) then
    some (0, 0, [0, 0, 0, 0, 0, 0, 0, 0, 0, 0, 0, 0, 0, 0, 0, 0, 0, 0, 0, 0, 0, 0, 0, 0, 0, 0, 0, 0, 0, 0, 0, 0], 1)
  else
    bif (a5 == 0) then
      some (0, 0, [0, 0, 0, 0, 0, 0, 0, 0, 0, 0, 0, 0, 0, 0, 0, 0, 0, 0, 0, 0, 0, 0, 0, 0, 0, 0, 0, 0, 0, 0, 0, 0], 1)
    else
      (f41.F K (0, a1, 8, 0, [])).bind fun y2 =>
      (f41.F K (0, (IntKind.wrap .u64 a5), 4, 0, [])).bind fun y4 =>
      bif ((Nat.ble (0 + y2.1) y2.2.2.2.2.1 && (Nat.ble y2.1 y2.2.1)) && ((Nat.ble (0 + y4.1) y4.2.2.2.2.1 && (Nat.ble y4.1 y4.2.1)) && true)) then
        (f22.F K (32, 32, (subI a0 0 32), 6, y2.1, 1, 16, 16, y4.1, 6, [112, 117, 122, 122, 108, 101], y2.1, (subI y2.2.2.2.2.2 0 y2.1), 1, [a2], 16, (subI a3 0 16), 16, (subI a4 0 16), y4.1, (subI y4.2.2.2.2.2 0 y4.1))).bind fun y5 =>
        some (a2, a1, y5.1, 0)
      else
        none
def f24.F (K : Nat) (x : f24.Ty0) : Option (f24.Ty1) := f24.T K x.1 x.2.1 x.2.2.1 x.2.2.2.1 x.2.2.2.2.1 x.2.2.2.2.2
def f24.av (x : f24.Ty0) : List VV := [.agg [.ints .u8 32 x.1], .int .u64 x.2.1, .int .u8 x.2.2.1, .agg [.ints .u8 16 x.2.2.2.1], .agg [.ints .u8 16 x.2.2.2.2.1], .int .u32 x.2.2.2.2.2]
def f24.bl (_x : f24.Ty0) : List (Nat × Blk) := []
def f24.inA : VS → Option (f24.Ty0)
  | ⟨[(0, .agg [.ints .u8 32 a0]), (1, .int .u64 a1), (2, .int .u8 a2), (3, .agg [.ints .u8 16 a3]), (4, .agg [.ints .u8 16 a4]), (5, .int .u32 a5)], [], 0⟩ => some (a0, a1, a2, a3, a4, a5)
  | _ => none
def f24.o0 (y : f24.Ty1) : VS := ⟨[(0, .tup [.agg [.int .u8 y.1, .int .u64 y.2.1, .ints .u8 32 y.2.2.1], .int .i64 y.2.2.2])], [], 0⟩
def f24.inR : VS → Option (f24.Ty1)
  | ⟨[(0, .tup [.agg [.int .u8 y_0, .int .u64 y_1, .ints .u8 32 y_2], .int .i64 y_3])], [], 0⟩ => some (y_0, y_1, y_2, y_3)
  | _ => none
noncomputable def f24.E (K : Nat) : Entry := genE 0 f24.inA (f24.F K) (dv1 f24.o0)
theorem f24.ok (K : Nat) : EntryOK Try.prog 24 (f24.E K) := gen_ok mix tys_ok (sp := tabSp [(41, (viewE [(0, .u8)] (f41.E K))), (22, (rowsE 1 .u8 (viewE [(0, .u8)] (f22.E K))))]) (tab_ok ((tab_cons (view_ok (f41.ok K)) (tab_cons (rows_ok (view_ok (f22.ok K))) tab_nil)))) Try.func24 (c := bodyOf Try.f24) (by kernel_rfl) (by kernel_rfl) (loops_none (lp := lpNone) (by kernel_rfl)) (av := f24.av) (bl := f24.bl) (inR := f24.inR) (out := f24.o0) (fuel := 400)
  (by intro s x h; unfold f24.inA at h; split at h <;> simp at h; subst h; rfl) (fun _ => Nat.le_of_ble_eq_true rfl)
  (by intro s y h; unfold f24.inR at h; split at h <;> simp at h <;> subst h <;> rfl) (fun _ _ _ => rfl) (fun _ => by kernel_rfl)
end Go.Proofs

namespace Go.Proofs
open Go.VM
def f49.T (K : Nat) (a0 : Int) : Option (Int) :=
  (f68.F K a0).bind fun y1 =>
  some y1
def f49.F (K : Nat) (x : Int) : Option (Int) := f49.T K x
def f49.av (x : Int) : List VV := [.int .u64 x]
def f49.bl (_x : Int) : List (Nat × Blk) := []
def f49.inA : VS → Option (Int)
  | ⟨[(0, .int .u64 a0)], [], 0⟩ => some a0
  | _ => none
def f49.o0 (y : Int) : VS := ⟨[(0, .int .i64 y)], [], 0⟩
def f49.inR : VS → Option (Int)
  | ⟨[(0, .int .i64 y)], [], 0⟩ => some y
  | _ => none
noncomputable def f49.E (K : Nat) : Entry := genE 0 f49.inA (f49.F K) (dv1 f49.o0)
theorem f49.ok (K : Nat) : EntryOK Try.prog 49 (f49.E K) := gen_ok mix tys_ok (tab_ok ((tab_cons (f68.ok K) tab_nil))) Try.func49 (c := bodyOf Try.f49) (by kernel_rfl) (by kernel_rfl) (loops_none (lp := lpNone) (by kernel_rfl)) (av := f49.av) (bl := f49.bl) (inR := f49.inR) (out := f49.o0) (fuel := 400)
  (by intro s x h; unfold f49.inA at h; split at h <;> simp at h; subst h; rfl) (fun _ => Nat.le_of_ble_eq_true rfl)
  (by intro s y h; unfold f49.inR at h; split at h <;> simp at h <;> subst h <;> rfl) (fun _ _ _ => rfl) (fun _ => by kernel_rfl)
end Go.Proofs

namespace Go.Proofs
open Go.VM
def f26.T (K : Nat) (a0 : Int) : Option (Int) :=
  bif (decide (a0 < 8)) then
    some (0)
  else
    (f49.F K (IntKind.wrap .u64 (IntKind.wrap .i64 (Int.tdiv a0 4)))).bind fun y4 =>
    some (IntKind.wrap .u8 (minE (IntKind.wrap .i64 (y4 - 1)) 12))
def f26.F (K : Nat) (x : Int) : Option (Int) := f26.T K x
def f26.av (x : Int) : List VV := [.int .i64 x]
def f26.bl (_x : Int) : List (Nat × Blk) := []
def f26.inA : VS → Option (Int)
  | ⟨[(0, .int .i64 a0)], [], 0⟩ => some a0
  | _ => none
def f26.o0 (y : Int) : VS := ⟨[(0, .int .u8 y)], [], 0⟩
def f26.inR : VS → Option (Int)
  | ⟨[(0, .int .u8 y)], [], 0⟩ => some y
  | _ => none
noncomputable def f26.E (K : Nat) : Entry := genE 0 f26.inA (f26.F K) (dv1 f26.o0)
theorem f26.ok (K : Nat) : EntryOK Try.prog 26 (f26.E K) := gen_ok mix tys_ok (tab_ok ((tab_cons (f49.ok K) tab_nil))) Try.func26 (c := bodyOf Try.f26) (by kernel_rfl) (by kernel_rfl) (loops_none (lp := lpNone) (by kernel_rfl)) (av := f26.av) (bl := f26.bl) (inR := f26.inR) (out := f26.o0) (fuel := 400)
  (by intro s x h; unfold f26.inA at h; split at h <;> simp at h; subst h; rfl) (fun _ => Nat.le_of_ble_eq_true rfl)
  (by intro s y h; unfold f26.inR at h; split at h <;> simp at h <;> subst h <;> rfl) (fun _ _ _ => rfl) (fun _ => by kernel_rfl)
end Go.Proofs
