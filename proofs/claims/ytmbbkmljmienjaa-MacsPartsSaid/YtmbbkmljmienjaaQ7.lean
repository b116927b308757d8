/- Plain laws: lemmas that hold with no condition but those that each states. -/
import Derived.Test.YtmbbkmljmienjaaQ3
import Derived.Test.YtmbbkmljmienjaaQ6
import Derived.Laws.MathBits
import Derived.Laws.Strings
namespace Go.Proofs
open Go.VM
def f106.T (_K : Nat) (a0 : Int) (a1 : Int) : Option (Int) :=
  let v2 := bits .and .u64 (IntKind.wrap .u64 a1) 31
  bif decide (0 ≤ v2) then
    let v4 := IntKind.wrap .u64 (32 - v2)
    bif decide (0 ≤ v4) then
      some (bits .or .u32 (shiftI .shl .u32 a0 v2) (shiftI .shr .u32 a0 v4))
    else
      none
  else
    none
def f106.F (K : Nat) (x : Int × Int) : Option (Int) := f106.T K x.1 x.2
def f106.av (x : Int × Int) : List VV := [.int .u32 x.1, .int .i64 x.2]
def f106.bl (_x : Int × Int) : List (Nat × Blk) := []
def f106.inA : VS → Option (Int × Int)
  | ⟨[(0, .int .u32 a0), (1, .int .i64 a1)], [], 0⟩ => some (a0, a1)
  | _ => none
def f106.o0 (y : Int) : VS := ⟨[(0, .int .u32 y)], [], 0⟩
def f106.inR : VS → Option (Int)
  | ⟨[(0, .int .u32 y)], [], 0⟩ => some y
  | _ => none
noncomputable def f106.E (K : Nat) : Entry := genE 0 f106.inA (f106.F K) (dv1 f106.o0)
theorem f106.ok (K : Nat) : EntryOK Try.prog 106 (f106.E K) := gen_ok mix tys_ok (tab_ok ( tab_nil)) Try.func106 (c := bodyOf Try.f106) (by kernel_rfl) (by kernel_rfl) (loops_none (lp := lpNone) (by kernel_rfl)) (av := f106.av) (bl := f106.bl) (inR := f106.inR) (out := f106.o0) (fuel := 400)
  (by intro s x h; unfold f106.inA at h; split at h <;> simp at h; subst h; rfl) (fun _ => Nat.le_of_ble_eq_true rfl)
  (by intro s y h; unfold f106.inR at h; split at h <;> simp at h <;> subst h <;> rfl) (fun _ _ _ => rfl) (fun _ => by kernel_rfl)
end Go.Proofs

namespace Go.Proofs
open Go.VM
abbrev f102.Ty0 := Int × Int × Nat × Int × Int × Nat × List Int
abbrev f102.Ty1 := Int × Nat × Nat × List Int
abbrev f102.Ty2 := Int × Nat × List Int
noncomputable def f102.c : Code := bodyOf Try.f102
def f102.s0t (K : Nat) (rec : f102.Ty0 → Option (f102.Ty2)) (t0 : Int) (t5 : Int) (t8 : Nat) (t9 : Int) (t10 : Int) (b0_0 : Nat) (b0_1 : List Int) : Option (f102.Ty2) :=
  bif (decide (t10 < t9)) then
    bif decide (0 ≤ t10 ∧ t10 < ((t8 : Nat) : Int)) then
      let v3 := 0 + (Int.toNat t10)
      bif Nat.blt v3 b0_0 then
        (f106.F K (t0, (IntKind.wrap .i64 (0 - (List.getD b0_1 v3 0))))).bind fun y6 =>
        rec (t0, (bits .xor .u32 t5 y6), t8, t9, (IntKind.wrap .i64 (t10 + 1)), b0_0, b0_1)
      else
        none
    else
      none
  else
    some (t5, b0_0, b0_1)
def f102.s0 (K : Nat) (rec : f102.Ty0 → Option (f102.Ty2)) (x : f102.Ty0) : Option (f102.Ty2) := f102.s0t K rec x.1 x.2.1 x.2.2.1 x.2.2.2.1 x.2.2.2.2.1 x.2.2.2.2.2.1 x.2.2.2.2.2.2
noncomputable def f102.s0.b : Code := (findLoop 0 f102.c).getD .skip
def f102.s0.h : Hint := { lv := [0, 5, 8, 9, 10] }
def f102.s0.ho : Hint := { lv := [5] }
def f102.s0.shp (x : f102.Ty0) : VS := ⟨[(0, .int .u32 x.1), (5, .int .u32 x.2.1), (8, .vw true 0 0 x.2.2.1 1), (9, .int .i64 x.2.2.2.1), (10, .int .i64 x.2.2.2.2.1)], [(0, ([.ints .i64 x.2.2.2.2.2.1 x.2.2.2.2.2.2], 0, .ro))], 2⟩
def f102.s0.inX : VS → Option (f102.Ty0)
  | ⟨[(0, .int .u32 t0), (5, .int .u32 t5), (8, .vw true 0 0 t8 1), (9, .int .i64 t9), (10, .int .i64 t10)], [(0, ([.ints .i64 b0_0 b0_1], 0, .ro))], 2⟩ => some (t0, t5, t8, t9, t10, b0_0, b0_1)
  | _ => none
def f102.s0.o0 (y : f102.Ty2) : VS := ⟨[(5, .int .u32 y.1)], [(0, ([.ints .i64 y.2.1 y.2.2], 0, .ro))], 2⟩
def f102.s0.des : ∀ α : Type, (f102.Ty2) → (Ex → VS → Option α) → Option α := (des1 (.exit 0) f102.s0.o0)
def f102.s0.out : f102.Ty2 → Ex × VS := (fun y => (.exit 0, f102.s0.o0 y))
theorem f102.s0.desOK : ∀ α y (k : Ex → VS → Option α), f102.s0.des α y k = k (f102.s0.out y).1 (f102.s0.out y).2 := (fun _ _ _ => rfl)
def f102.s0.inY : Ex → VS → Option (f102.Ty2)
  | .exit 0, ⟨[(5, .int .u32 t5)], [(0, ([.ints .i64 b0_0 b0_1], 0, .ro))], 2⟩ => some (t5, b0_0, b0_1)
  | _, _ => none
def f102.lp (K : Nat) : Nat → Option (Hint × Summ) := tabLp [(0, f102.s0.h, summOf (iter (f102.s0 K) K) f102.s0.inX f102.s0.des)]
noncomputable def f102.tab (K : Nat) : List (Nat × Entry) := [(106, (f106.E K))]
theorem f102.tabOK (K : Nat) : SpecOK Try.prog (tabSp (f102.tab K)) := tab_ok ((tab_cons (f106.ok K) tab_nil))
theorem f102.s0.eq (K : Nat) (rec : f102.Ty0 → Option (f102.Ty2)) (x : f102.Ty0) : f102.s0 K rec x = roundL (getA tys) (tabSp (f102.tab K)) 22 2 (f102.lp K) 400 f102.s0.b f102.s0.h f102.s0.ho f102.s0.shp f102.s0.inX f102.s0.inY rec x := by kernel_rfl
theorem f102.s0.lok (K : Nat) : LoopsOK Try.prog 22 2 (f102.lp K) f102.s0.b := loops_ok (by
  have h : loopsIn (f102.lp K) f102.s0.b = [] := by kernel_rfl
  rw [h]; simp)
theorem f102.s0.ok (K : Nat) : SummOK Try.prog 22 2 (summOf (iter (f102.s0 K) K) f102.s0.inX f102.s0.des) f102.s0.b :=
  loop_ok mix tys_ok (f102.tabOK K) (h := f102.s0.h) (ho := f102.s0.ho) (shp := f102.s0.shp) (inX := f102.s0.inX) (des := f102.s0.des) (out := f102.s0.out) (inY := f102.s0.inY) (fuel := 400)
    (by intro st x h; unfold f102.s0.inX at h; split at h <;> simp at h; subst h; rfl)
    (by intro e st y h; unfold f102.s0.inY at h; split at h <;> simp at h <;> subst h <;> rfl)
    f102.s0.desOK (f102.s0.lok K) (f102.s0 K) (f102.s0.eq K) K
theorem f102.loops (K : Nat) : LoopsOK Try.prog 22 2 (f102.lp K) f102.c := loops_ok (by
  have h : loopsIn (f102.lp K) f102.c = [(0, f102.s0.b)] := by kernel_rfl
  rw [h]
  intro p hp
  simp only [List.mem_cons, List.not_mem_nil, or_false] at hp
  rcases hp with rfl
  · exact ⟨_, rfl, (f102.s0.ok K)⟩)
def f102.T (K : Nat) (a0 : Int) (a1 : Nat) (m0_0 : Nat) (m0_1 : List Int) : Option (f102.Ty2) :=
  (iter (f102.s0 K) K (a0, 0, a1, ((a1 : Nat) : Int), 0, m0_0, m0_1)).bind fun y9 =>
  some (y9.1, y9.2.1, y9.2.2)
def f102.F (K : Nat) (x : f102.Ty1) : Option (f102.Ty2) := f102.T K x.1 x.2.1 x.2.2.1 x.2.2.2
def f102.av (x : f102.Ty1) : List VV := [.int .u32 x.1, .vw true 0 0 x.2.1 1]
def f102.bl (x : f102.Ty1) : List (Nat × Blk) := [(0, ([.ints .i64 x.2.2.1 x.2.2.2], 0, .ro))]
def f102.inA : VS → Option (f102.Ty1)
  | ⟨[(0, .int .u32 a0), (1, .vw true 0 0 a1 1)], [(0, ([.ints .i64 m0_0 m0_1], 0, .ro))], 2⟩ => some (a0, a1, m0_0, m0_1)
  | _ => none
def f102.o0 (y : f102.Ty2) : VS := ⟨[(0, .int .u32 y.1)], [(0, ([.ints .i64 y.2.1 y.2.2], 0, .ro))], 2⟩
def f102.des : ∀ α : Type, (f102.Ty2) → (VS → Option α) → Option α := (dv1 f102.o0)
def f102.out : f102.Ty2 → VS := f102.o0
def f102.inR : VS → Option (f102.Ty2)
  | ⟨[(0, .int .u32 y)], [(0, ([.ints .i64 z0_0 z0_1], 0, .ro))], 2⟩ => some (y, z0_0, z0_1)
  | _ => none
noncomputable def f102.E (K : Nat) : Entry := genE 2 f102.inA (f102.F K) f102.des
theorem f102.eq (K : Nat) (x : f102.Ty1) : f102.F K x = xrun (getA tys) (tabSp (f102.tab K)) Try.f102.ntmps 2 (f102.lp K) 400 f102.c ⟨initL 0 (f102.av x), f102.bl x, 2⟩ (contF (getA tys) 2 Try.f102.results.toList f102.inR) := by kernel_rfl
theorem f102.ok (K : Nat) : EntryOK Try.prog 102 (f102.E K) :=
  gen_ok mix tys_ok (f102.tabOK K) Try.func102 (by kernel_rfl : Try.f102.body = some f102.c) (by kernel_rfl) (f102.loops K) (av := f102.av) (bl := f102.bl) (out := f102.out) (fuel := 400)
    (by intro s x h; unfold f102.inA at h; split at h <;> simp at h; subst h; rfl) (fun _ => Nat.le_of_ble_eq_true rfl)
    (by intro s y h; unfold f102.inR at h; split at h <;> simp at h <;> subst h <;> rfl) (fun _ _ _ => rfl) (f102.eq K)
end Go.Proofs

namespace Go.Proofs
open Go.VM
abbrev f61.Ty0 := Int × Int × Nat × List Int × List Int
abbrev f61.Ty1 := Int × Int × Nat × List Int
abbrev f61.Ty2 := Nat × Int × Nat × List Int
abbrev f61.Ty3 := Int × Nat × List Int
noncomputable def f61.c : Code := bodyOf Try.f61
def f61.s0t (_K : Nat) (rec : f61.Ty0 → Option (f61.Ty3)) (t4 : Int) (t23 : Int) (b0_0 : Nat) (b0_1 : List Int) (b2 : List Int) : Option (f61.Ty3) :=
  bif (decide (t23 < 8)) then
    bif decide (0 ≤ t23 ∧ t23 < 8) then
      rec ((IntKind.wrap .u64 ((IntKind.wrap .u64 (256 * t4)) + (IntKind.wrap .u64 (List.getD b2 (Int.toNat t23) 0)))), (IntKind.wrap .i64 (t23 + 1)), b0_0, b0_1, b2)
    else
      none
  else
    some (t4, b0_0, b0_1)
def f61.s0 (K : Nat) (rec : f61.Ty0 → Option (f61.Ty3)) (x : f61.Ty0) : Option (f61.Ty3) := f61.s0t K rec x.1 x.2.1 x.2.2.1 x.2.2.2.1 x.2.2.2.2
noncomputable def f61.s0.b : Code := (findLoop 0 f61.c).getD .skip
def f61.s0.h : Hint := { lv := [4, 6, 23] }
def f61.s0.ho : Hint := { lv := [4] }
def f61.s0.shp (x : f61.Ty0) : VS := ⟨[(4, .int .u64 x.1), (6, .ptr 2 0), (23, .int .i64 x.2.1)], [(0, ([.ints .u8 x.2.2.1 x.2.2.2.1], 0, .ro)), (2, ([.ints .u8 8 x.2.2.2.2], 136, .norm))], 3⟩
def f61.s0.inX : VS → Option (f61.Ty0)
  | ⟨[(4, .int .u64 t4), (6, .ptr 2 0), (23, .int .i64 t23)], [(0, ([.ints .u8 b0_0 b0_1], 0, .ro)), (2, ([.ints .u8 8 b2], 136, .norm))], 3⟩ => some (t4, t23, b0_0, b0_1, b2)
  | _ => none
def f61.s0.o0 (y : f61.Ty3) : VS := ⟨[(4, .int .u64 y.1)], [(0, ([.ints .u8 y.2.1 y.2.2], 0, .ro))], 2⟩
def f61.s0.des : ∀ α : Type, (f61.Ty3) → (Ex → VS → Option α) → Option α := (des1 (.exit 0) f61.s0.o0)
def f61.s0.out : f61.Ty3 → Ex × VS := (fun y => (.exit 0, f61.s0.o0 y))
theorem f61.s0.desOK : ∀ α y (k : Ex → VS → Option α), f61.s0.des α y k = k (f61.s0.out y).1 (f61.s0.out y).2 := (fun _ _ _ => rfl)
def f61.s0.inY : Ex → VS → Option (f61.Ty3)
  | .exit 0, ⟨[(4, .int .u64 t4)], [(0, ([.ints .u8 b0_0 b0_1], 0, .ro))], 2⟩ => some (t4, b0_0, b0_1)
  | _, _ => none
def f61.lp (K : Nat) : Nat → Option (Hint × Summ) := tabLp [(0, f61.s0.h, summOf (iter (f61.s0 K) K) f61.s0.inX f61.s0.des)]
noncomputable def f61.tab (_K : Nat) : List (Nat × Entry) := []
theorem f61.tabOK (K : Nat) : SpecOK Try.prog (tabSp (f61.tab K)) := tab_ok ( tab_nil)
theorem f61.s0.eq (K : Nat) (rec : f61.Ty0 → Option (f61.Ty3)) (x : f61.Ty0) : f61.s0 K rec x = roundL (getA tys) (tabSp (f61.tab K)) 35 2 (f61.lp K) 400 f61.s0.b f61.s0.h f61.s0.ho f61.s0.shp f61.s0.inX f61.s0.inY rec x := by kernel_rfl
theorem f61.s0.lok (K : Nat) : LoopsOK Try.prog 35 2 (f61.lp K) f61.s0.b := loops_ok (by
  have h : loopsIn (f61.lp K) f61.s0.b = [] := by kernel_rfl
  rw [h]; simp)
theorem f61.s0.ok (K : Nat) : SummOK Try.prog 35 2 (summOf (iter (f61.s0 K) K) f61.s0.inX f61.s0.des) f61.s0.b :=
  loop_ok mix tys_ok (f61.tabOK K) (h := f61.s0.h) (ho := f61.s0.ho) (shp := f61.s0.shp) (inX := f61.s0.inX) (des := f61.s0.des) (out := f61.s0.out) (inY := f61.s0.inY) (fuel := 400)
    (by intro st x h; unfold f61.s0.inX at h; split at h <;> simp at h; subst h; rfl)
    (by intro e st y h; unfold f61.s0.inY at h; split at h <;> simp at h <;> subst h <;> rfl)
    f61.s0.desOK (f61.s0.lok K) (f61.s0 K) (f61.s0.eq K) K
theorem f61.loops (K : Nat) : LoopsOK Try.prog 35 2 (f61.lp K) f61.c := loops_ok (by
  have h : loopsIn (f61.lp K) f61.c = [(0, f61.s0.b)] := by kernel_rfl
  rw [h]
  intro p hp
  simp only [List.mem_cons, List.not_mem_nil, or_false] at hp
  rcases hp with rfl
  · exact ⟨_, rfl, (f61.s0.ok K)⟩)
def f61.T (K : Nat) (a0 : Nat) (a1 : Int) (m0_0 : Nat) (m0_1 : List Int) : Option (f61.Ty1) :=
  bif (decide (a1 < 0)) then
    some (0, 1, m0_0, m0_1)
  else
    bif (decide (a1 > 8)) then
      some (0, 1, m0_0, m0_1)
    else
      bif (decide (((a0 : Nat) : Int) < a1)) then
        some (0, 5, m0_0, m0_1)
      else
        let v5 := IntKind.wrap .i64 (8 - a1)
        bif decide (0 ≤ v5 ∧ v5 ≤ 8) then
          let v6 := bif Nat.beq 8 (Int.toNat v5) then 0 else 0 + (Int.toNat v5)
          let v7 := 8 - (Int.toNat v5)
          bif ((Nat.ble (0 + a0) m0_0 && (Nat.ble (v6 + v7) 8)) && (Nat.beq a0 a0)) then
            (iter (f61.s0 K) K (0, 0, m0_0, m0_1, (spl [0, 0, 0, 0, 0, 0, 0, 0] v6 (Nat.min a0 v7) (subI m0_1 0 a0)))).bind fun y18 =>
            some (y18.1, 0, y18.2.1, y18.2.2)
          else
            none
        else
          none
def f61.F (K : Nat) (x : f61.Ty2) : Option (f61.Ty1) := f61.T K x.1 x.2.1 x.2.2.1 x.2.2.2
def f61.av (x : f61.Ty2) : List VV := [.vw true 0 0 x.1 1, .int .i64 x.2.1]
def f61.bl (x : f61.Ty2) : List (Nat × Blk) := [(0, ([.ints .u8 x.2.2.1 x.2.2.2], 0, .ro))]
def f61.inA : VS → Option (f61.Ty2)
  | ⟨[(0, .vw true 0 0 a0 1), (1, .int .i64 a1)], [(0, ([.ints .u8 m0_0 m0_1], 0, .ro))], 2⟩ => some (a0, a1, m0_0, m0_1)
  | _ => none
def f61.o0 (y : f61.Ty1) : VS := ⟨[(0, .tup [.int .u64 y.1, .int .i64 y.2.1])], [(0, ([.ints .u8 y.2.2.1 y.2.2.2], 0, .ro))], 2⟩
def f61.des : ∀ α : Type, (f61.Ty1) → (VS → Option α) → Option α := (dv1 f61.o0)
def f61.out : f61.Ty1 → VS := f61.o0
def f61.inR : VS → Option (f61.Ty1)
  | ⟨[(0, .tup [.int .u64 y_0, .int .i64 y_1])], [(0, ([.ints .u8 z0_0 z0_1], 0, .ro))], 2⟩ => some (y_0, y_1, z0_0, z0_1)
  | _ => none
noncomputable def f61.E (K : Nat) : Entry := genE 2 f61.inA (f61.F K) f61.des
theorem f61.eq (K : Nat) (x : f61.Ty2) : f61.F K x = xrun (getA tys) (tabSp (f61.tab K)) Try.f61.ntmps 2 (f61.lp K) 400 f61.c ⟨initL 0 (f61.av x), f61.bl x, 2⟩ (contF (getA tys) 2 Try.f61.results.toList f61.inR) := by kernel_rfl
theorem f61.ok (K : Nat) : EntryOK Try.prog 61 (f61.E K) :=
  gen_ok mix tys_ok (f61.tabOK K) Try.func61 (by kernel_rfl : Try.f61.body = some f61.c) (by kernel_rfl) (f61.loops K) (av := f61.av) (bl := f61.bl) (out := f61.out) (fuel := 400)
    (by intro s x h; unfold f61.inA at h; split at h <;> simp at h; subst h; rfl) (fun _ => Nat.le_of_ble_eq_true rfl)
    (by intro s y h; unfold f61.inR at h; split at h <;> simp at h <;> subst h <;> rfl) (fun _ _ _ => rfl) (f61.eq K)
end Go.Proofs

namespace Go.Proofs
open Go.VM
end Go.Proofs

namespace Go.Proofs
open Go.VM
abbrev f59.Ty0 := Nat × Nat × Nat × List Int × Nat × List Int
abbrev f59.Ty1 := Nat × Int × Int × Nat × List Int
def f59.T (K : Nat) (a0 : Nat) (a1 : Int) (a2 : Int) (m0_0 : Nat) (m0_1 : List Int) : Option (f59.Ty0) :=
  bif ((Nat.ble (0 + a0) m0_0 && true) && true) then
    (f92.F K (a0, (maxE 0 (minE 8 a2)), 1, a0, (subI m0_1 0 a0), 1, [a1])).bind fun y2 =>
    some (y2.1, y2.2.1, m0_0, m0_1, y2.2.2.2.2.2.2.1, y2.2.2.2.2.2.2.2)
  else
    none
def f59.F (K : Nat) (x : f59.Ty1) : Option (f59.Ty0) := f59.T K x.1 x.2.1 x.2.2.1 x.2.2.2.1 x.2.2.2.2
def f59.av (x : f59.Ty1) : List VV := [.vw true 0 0 x.1 1, .int .u64 x.2.1, .int .i64 x.2.2.1]
def f59.bl (x : f59.Ty1) : List (Nat × Blk) := [(0, ([.ints .u8 x.2.2.2.1 x.2.2.2.2], 0, .ro))]
def f59.inA : VS → Option (f59.Ty1)
  | ⟨[(0, .vw true 0 0 a0 1), (1, .int .u64 a1), (2, .int .i64 a2)], [(0, ([.ints .u8 m0_0 m0_1], 0, .ro))], 2⟩ => some (a0, a1, a2, m0_0, m0_1)
  | _ => none
def f59.o0 (y : f59.Ty0) : VS := ⟨[(0, .sl 2 0 y.1 y.2.1)], [(0, ([.ints .u8 y.2.2.1 y.2.2.2.1], 0, .ro)), (2, ([.ints .u8 y.2.2.2.2.1 y.2.2.2.2.2], 5, .norm))], 3⟩
def f59.inR : VS → Option (f59.Ty0)
  | ⟨[(0, .sl 2 0 y_0 y_1)], [(0, ([.ints .u8 z0_0 z0_1], 0, .ro)), (2, ([.ints .u8 z2_0 z2_1], 5, .norm))], 3⟩ => some (y_0, y_1, z0_0, z0_1, z2_0, z2_1)
  | _ => none
noncomputable def f59.E (K : Nat) : Entry := genE 2 f59.inA (f59.F K) (dv1 f59.o0)
theorem f59.ok (K : Nat) : EntryOK Try.prog 59 (f59.E K) := gen_ok mix tys_ok (sp := tabSp [(92, (viewE [(0, .u8), (2, .u64)] (f92.E K)))]) (tab_ok ((tab_cons (view_ok (f92.ok K)) tab_nil))) Try.func59 (c := bodyOf Try.f59) (by kernel_rfl) (by kernel_rfl) (loops_none (lp := lpNone) (by kernel_rfl)) (av := f59.av) (bl := f59.bl) (inR := f59.inR) (out := f59.o0) (fuel := 400)
  (by intro s x h; unfold f59.inA at h; split at h <;> simp at h; subst h; rfl) (fun _ => Nat.le_of_ble_eq_true rfl)
  (by intro s y h; unfold f59.inR at h; split at h <;> simp at h <;> subst h <;> rfl) (fun _ _ _ => rfl) (fun _ => by kernel_rfl)
end Go.Proofs

namespace Go.Proofs
open Go.VM
theorem low_be : ∀ n x : Nat, x < 18446744073709551616 → Rw.low n (x : Int) = be n x
  | 0, _, _ => rfl
  | n + 1, x, h => by
    have e : Rw.nxt (x : Int) = ((x / 256 : Nat) : Int) := by
      rw [Rw.nxt, show (256 : Int) = ((256 : Nat) : Int) from rfl, tdiv_nat, wrap_u _ (by omega) (by omega)]
    rw [Rw.low, e, low_be n (x / 256) (by omega), be, Rw.byt]
    rfl
theorem octets_pad {l : List Int} (h : octets l) (n : Nat) : octets (padT l n) := by
  intro x hx
  simp only [padT, List.mem_map, List.mem_range] at hx
  obtain ⟨i, _, rfl⟩ := hx
  rw [List.getD_eq_getElem?_getD]
  cases e : l[i]? with
  | none => simp
  | some y => exact h y (List.mem_of_getElem? e)
theorem octets_sub {l : List Int} (h : octets l) (i n : Nat) : octets (subI l i n) := by
  intro x hx
  simp only [subI, List.mem_map, List.mem_range] at hx
  obtain ⟨j, _, rfl⟩ := hx
  rw [List.getD_eq_getElem?_getD]
  cases e : l[i + j]? with
  | none => simp
  | some y => exact h y (List.mem_of_getElem? e)
theorem octets_spl {l m : List Int} (h : octets l) (h2 : octets m) (i n : Nat) : octets (spl l i n m) := by
  rw [spl]
  exact octets_append (octets_append (octets_pad h _) (octets_pad h2 _)) fun x hx => h x (List.mem_of_mem_drop hx)
theorem subI_length (l : List Int) (i n : Nat) : (subI l i n).length = n := by simp [subI]
theorem padT_length (l : List Int) (n : Nat) : (padT l n).length = n := by simp [padT]
theorem row_flat (e : Nat) : ∀ (xs : List Nat), (∀ x ∈ xs, x < 18446744073709551616) → (xs.map fun x : Nat => (x : Int)).flatMap (Rw.low e) = xs.flatMap (be e)
  | [], _ => rfl
  | x :: xs, h => by
    rw [List.map_cons, List.flatMap_cons, List.flatMap_cons, row_flat e xs fun y hy => h y (List.mem_cons_of_mem _ hy), low_be e x (h x List.mem_cons_self)]
theorem f92.spec (K a e m : Nat) (l : List Int) (xs : List Nat) (hl : l.length = a) (hm : xs.length = m) (hx : ∀ x ∈ xs, x < 18446744073709551616) (he : e ≤ 8) (ha : a + e * m ≤ 140737488355328) (hm2 : m ≤ 1000000000) :
    f92.F K (a, (e : Int), m, a, l, m, xs.map fun x : Nat => (x : Int)) = some (a + e * m, a + e * m, a, l, m, (xs.map fun x : Nat => (x : Int)), a + e * m, l ++ xs.flatMap (be e)) := by
  rw [f92.F]
  simp only [Int.toNat_natCast]
  rw [show Nat.beq a a = true from Nat.beq_refl a, show Nat.beq m m = true from Nat.beq_refl m, decide_eq_true (show (0 : Int) ≤ (e : Int) ∧ (e : Int) ≤ 8 by omega), ble_true ha, ble_true (show m * 8 ≤ 140737488351232 by omega),
    Bool.and_self, Bool.and_self, Bool.and_self, Bool.and_self, cond_t, padT_self l hl, padT_self _ (by simpa using hm), row_flat e xs hx]
theorem f59.spec (K a n x : Nat) (l : List Int) (hl : l.length = a) (hx : x < 18446744073709551616) (hn : n ≤ 8) (ha : a ≤ 1000000000) :
    f59.F K (a, (x : Int), (n : Int), a, l) = some (a + n, a + n, a, l, a + n, l ++ be n x) := by
  have e1 : maxE 0 (minE 8 (n : Int)) = (n : Int) := by
    unfold maxE minE
    rcases Nat.lt_or_ge n 8 with h | h
    · rw [decide_eq_true (show (n : Int) < 8 by omega), cond_t]
      rcases Nat.eq_zero_or_pos n with h0 | h0
      · subst h0; rfl
      · rw [decide_eq_true (show (n : Int) > 0 by omega), cond_t]
    · have : n = 8 := by omega
      subst this; rfl
  have e2 := f92.spec K a n 1 l [x] hl rfl (by simpa using hx) hn (by omega) (by omega)
  simp only [List.map_cons, List.map_nil, List.flatMap_cons, List.flatMap_nil, List.append_nil, Nat.mul_one] at e2
  simp only [f59.F, f59.T]
  rw [Nat.zero_add, ble_true (Nat.le_refl a), Bool.and_self, Bool.and_self, cond_t, e1, subI_self l hl, e2, bind_s]
theorem take_snoc {l : List Int} {i : Nat} (h : i < l.length) : l.take (i + 1) = l.take i ++ [l.getD i 0] := by
  rw [List.take_add_one, List.getD_eq_getElem?_getD, List.getElem?_eq_getElem h]; rfl
theorem tv_zeros : ∀ n, tv (List.replicate n 0) = 0
  | 0 => rfl
  | n + 1 => by rw [List.replicate_succ', tv_snoc, tv_zeros n]; rfl
theorem octets_zeros (n : Nat) : octets (List.replicate n 0) := fun x hx => by rw [List.mem_replicate] at hx; omega
theorem f61.loop (K n : Nat) (l b : List Int) (hb : b.length = 8) (ho : octets b) (hK : 8 < K) : iter (f61.s0 K) K (0, 0, n, l, b) = some (((tv b : Nat) : Int), n, l) := by
  have := iter_for (stp := f61.s0 K) (N := 8) (fun i => (((tv (b.take i) : Nat) : Int), (i : Int), n, l, b)) (y := some (((tv b : Nat) : Int), n, l)) ?_ ?_ hK
  · exact this
  · intro i hi rec
    simp only [f61.s0, f61.s0t]
    have hg := ho (b.getD i 0) (by rw [List.getD_eq_getElem?_getD, List.getElem?_eq_getElem (by omega)]; exact List.getElem_mem _)
    have h1 : tv (b.take i) < 256 ^ i := tv_lt i _ (by simp; omega) fun x hx => ho x (List.mem_of_mem_take hx)
    have h2 : (256 : Nat) ^ i ≤ 256 ^ 7 := Nat.pow_le_pow_right (by decide) (by omega)
    have h3 : (256 : Nat) ^ 7 = 72057594037927936 := by decide
    have e5 : (256 : Int) * ((tv (b.take i) : Nat) : Int) = ((256 * tv (b.take i) : Nat) : Int) := by rw [Int.natCast_mul]; rfl
    rw [decide_eq_true (show (i : Int) < 8 by omega), cond_t, decide_eq_true (show (0 : Int) ≤ (i : Int) ∧ (i : Int) < 8 by omega), cond_t, Int.toNat_natCast, e5, wrap_u ((256 * tv (b.take i) : Nat) : Int) (by omega) (by omega), wrap_u (b.getD i 0) (by omega) (by omega), wrap_u (((256 * tv (b.take i) : Nat) : Int) + b.getD i 0) (by omega) (by omega), wrap_i _ (by omega) (by omega), take_snoc (by omega), tv_snoc]
    congr 2
    omega
  · intro rec
    simp only [f61.s0, f61.s0t]
    rw [List.take_of_length_le (by omega)]
    rfl
theorem f61.spec (K n m : Nat) (l : List Int) (hl : l.length = n) (ho : octets l) (hm : 1 ≤ m) (hm8 : m ≤ 8) (hn : m ≤ n) (hK : 8 < K) : f61.F K (n, (m : Int), n, l) = some (((tv (l.take m) : Nat) : Int), 0, n, l) := by
  simp only [f61.F, f61.T]
  have e : IntKind.wrap .i64 (8 - (m : Int)) = ((8 - m : Nat) : Int) := by rw [wrap_i _ (by omega) (by omega)]; omega
  have e6 : (bif Nat.beq 8 (8 - m) then 0 else 0 + (8 - m)) = 8 - m := by
    rw [show Nat.beq 8 (8 - m) = false from (by rw [← Bool.not_eq_true, Nat.beq_eq]; omega), cond_f, Nat.zero_add]
  have e7 : spl [0, 0, 0, 0, 0, 0, 0, 0] (8 - m) (Nat.min n (8 - (8 - m))) (subI l 0 n) = List.replicate (8 - m) 0 ++ l.take m := by
    have q : Nat.min n (8 - (8 - m)) = m := by show min n _ = m; omega
    rw [q, subI_self l hl, spl, List.drop_of_length_le (by simp; omega), List.append_nil]
    congr 1
    · refine List.ext_getElem? fun i => ?_
      by_cases hi : i < 8 - m
      · have : i < 8 := by omega
        rw [List.getElem?_replicate, if_pos hi]
        simp only [padT, List.getElem?_map, List.getElem?_range hi, Option.map_some]
        congr 1
        match i, this with
        | 0, _ | 1, _ | 2, _ | 3, _ | 4, _ | 5, _ | 6, _ | 7, _ => rfl
      · rw [List.getElem?_eq_none (by simpa [padT] using hi), List.getElem?_eq_none (by simpa using hi)]
    · refine List.ext_getElem? fun i => ?_
      rw [List.getElem?_take]
      by_cases hi : i < m
      · rw [if_pos hi]
        have : i < l.length := by omega
        simp [padT, hi, this]
      · rw [if_neg hi, List.getElem?_eq_none (by simpa [padT] using hi)]
  rw [decide_eq_false (show ¬ (m : Int) < 0 by omega), cond_f, decide_eq_false (show ¬ (m : Int) > 8 by omega), cond_f, decide_eq_false (show ¬ ((n : Nat) : Int) < (m : Int) by omega), cond_f, e, decide_eq_true (show (0 : Int) ≤ ((8 - m : Nat) : Int) ∧ ((8 - m : Nat) : Int) ≤ 8 by omega), cond_t]
  simp only [Int.toNat_natCast]
  rw [e6, e7, Nat.zero_add, ble_true (Nat.le_refl n), ble_true (show 8 - m + (8 - (8 - m)) ≤ 8 by omega), show Nat.beq n n = true from Nat.beq_refl n, Bool.and_self, Bool.and_self, cond_t,
    f61.loop K n l _ (by simp; omega) (octets_append (octets_zeros _) fun x hx => ho x (List.mem_of_mem_take hx)) hK, bind_s, tv_append, tv_zeros, Nat.zero_mul, Nat.zero_add]
end Go.Proofs

namespace Go.Proofs
open Go.VM
abbrev f100.Ty0 := List Int × Int × Int × List Int × List Int × Int
abbrev f100.Ty1 := List Int × Int × Int × List Int
def f100.T (_K : Nat) (m0_0 : List Int) (m0_1 : Int) (m0_2 : Int) (m1 : List Int) : Option (f100.Ty0) :=
  some (m0_0, m0_1, m0_2, m1, [0, 0, 0, 0, 0, 0, 0, 0, 0, 0, 0, 0, 0, 0, 0, 0], 0)
def f100.F (K : Nat) (x : f100.Ty1) : Option (f100.Ty0) := f100.T K x.1 x.2.1 x.2.2.1 x.2.2.2
def f100.av (_x : f100.Ty1) : List VV := [.ptr 0 1]
def f100.bl (x : f100.Ty1) : List (Nat × Blk) := [(0, ([.ptr 1 0, .ints .u8 64 x.1, .int .i64 x.2.1, .int .u64 x.2.2.1], 117, .norm)), (1, ([.ints .u32 8 x.2.2.2], 113, .norm))]
def f100.inA : VS → Option (f100.Ty1)
  | ⟨[(0, .ptr 0 1)], [(0, ([.ptr 1 0, .ints .u8 64 m0_0, .int .i64 m0_1, .int .u64 m0_2], 117, .norm)), (1, ([.ints .u32 8 m1], 113, .norm))], 2⟩ => some (m0_0, m0_1, m0_2, m1)
  | _ => none
def f100.o0 (y : f100.Ty0) : VS := ⟨[(0, .fn 105 [.ptr 2 0, .ptr 3 0, .ptr 4 0])], [(0, ([.ptr 1 0, .ints .u8 64 y.1, .int .i64 y.2.1, .int .u64 y.2.2.1], 117, .norm)), (1, ([.ints .u32 8 y.2.2.2.1], 113, .norm)), (2, ([.ints .u32 16 y.2.2.2.2.1], 152, .norm)), (3, ([.int .i64 y.2.2.2.2.2], 3, .norm)), (4, ([.ptr 0 1], 133, .norm))], 5⟩
def f100.inR : VS → Option (f100.Ty0)
  | ⟨[(0, .fn 105 [.ptr 2 0, .ptr 3 0, .ptr 4 0])], [(0, ([.ptr 1 0, .ints .u8 64 z0_0, .int .i64 z0_1, .int .u64 z0_2], 117, .norm)), (1, ([.ints .u32 8 z1], 113, .norm)), (2, ([.ints .u32 16 z2], 152, .norm)), (3, ([.int .i64 z3], 3, .norm)), (4, ([.ptr 0 1], 133, .norm))], 5⟩ => some (z0_0, z0_1, z0_2, z1, z2, z3)
  | _ => none
noncomputable def f100.E (K : Nat) : Entry := genE 2 f100.inA (f100.F K) (dv1 f100.o0)
theorem f100.ok (K : Nat) : EntryOK Try.prog 100 (f100.E K) := gen_ok mix tys_ok (tab_ok ( tab_nil)) Try.func100 (c := bodyOf Try.f100) (by kernel_rfl) (by kernel_rfl) (loops_none (lp := lpNone) (by kernel_rfl)) (av := f100.av) (bl := f100.bl) (inR := f100.inR) (out := f100.o0) (fuel := 400)
  (by intro s x h; unfold f100.inA at h; split at h <;> simp at h; subst h; rfl) (fun _ => Nat.le_of_ble_eq_true rfl)
  (by intro s y h; unfold f100.inR at h; split at h <;> simp at h <;> subst h <;> rfl) (fun _ _ _ => rfl) (fun _ => by kernel_rfl)
end Go.Proofs

namespace Go.Proofs
open Go.VM
def f101.T (_K : Nat)  : Option (List Int) :=
  some ([1116352408, 1899447441, 3049323471, 3921009573, 961987163, 1508970993, 2453635748, 2870763221, 3624381080, 310598401, 607225278, 1426881987, 1925078388, 2162078206, 2614888103, 3248222580, 3835390401, 4022224774, 264347078, 604807628, 770255983, 1249150122, 1555081692, 1996064986, 2554220882, 2821834349, 2952996808, 3210313671, 3336571891, 3584528711, 113926993, 338241895, 666307205, 773529912, 1294757372, 1396182291, 1695183700, 1986661051, 2177026350, 2456956037, 2730485921, 2820302411, 3259730800, 3345764771, 3516065817, 3600352804, 4094571909, 275423344, 430227734, 506948616, 659060556, 883997877, 958139571, 1322822218, 1537002063, 1747873779, 1955562222, 2024104815, 2227730452, 2361852424, 2428436474, 2756734187, 3204031479, 3329325298])
def f101.F (K : Nat) (_x : Unit) : Option (List Int) := f101.T K
def f101.av (_x : Unit) : List VV := []
def f101.bl (_x : Unit) : List (Nat × Blk) := []
def f101.inA : VS → Option (Unit)
  | ⟨[], [], 0⟩ => some ()
  | _ => none
def f101.o0 (y : List Int) : VS := ⟨[(0, .agg [.ints .u32 64 y])], [], 0⟩
def f101.inR : VS → Option (List Int)
  | ⟨[(0, .agg [.ints .u32 64 y])], [], 0⟩ => some y
  | _ => none
noncomputable def f101.E (K : Nat) : Entry := genE 0 f101.inA (f101.F K) (dv1 f101.o0)
theorem f101.ok (K : Nat) : EntryOK Try.prog 101 (f101.E K) := gen_ok mix tys_ok (tab_ok ( tab_nil)) Try.func101 (c := bodyOf Try.f101) (by kernel_rfl) (by kernel_rfl) (loops_none (lp := lpNone) (by kernel_rfl)) (av := f101.av) (bl := f101.bl) (inR := f101.inR) (out := f101.o0) (fuel := 400)
  (by intro s x h; unfold f101.inA at h; split at h <;> simp at h; rfl) (fun _ => Nat.le_of_ble_eq_true rfl)
  (by intro s y h; unfold f101.inR at h; split at h <;> simp at h <;> subst h <;> rfl) (fun _ _ _ => rfl) (fun _ => by kernel_rfl)
end Go.Proofs

namespace Go.Proofs
open Go.VM
abbrev f105.Ty0 := Int × List Int × Int × List Int × Int × Int × List Int
abbrev f105.Ty1 := List Int × Int × List Int × Int × Int × List Int
def f105.T (K : Nat) (m0 : List Int) (m1 : Int) (m3_0 : List Int) (m3_1 : Int) (m3_2 : Int) (m4 : List Int) : Option (f105.Ty0) :=
  let v1 := Int.tmod m1 16
  bif decide (0 ≤ v1 ∧ v1 < 16) then
    let v2 := Int.toNat v1
    bif (decide (m1 < 16)) then
      let v4 := IntKind.wrap .i64 (4 * m1)
      bif decide (0 ≤ v4 ∧ v4 ≤ 64) then
        let v5 := bif Nat.beq 64 (Int.toNat v4) then 0 else (Int.toNat v4)
        let v6 := 64 - (Int.toNat v4)
        bif ((Nat.ble (v5 + v6) 64 && (Nat.ble v6 (64 - (Int.toNat v4)))) && true) then
          (f61.F K (v6, 4, v6, (subI m3_0 v5 v6))).bind fun y8 =>
          let v10 := setD m0 v2 (IntKind.wrap .u32 y8.1)
          some ((List.getD v10 v2 0), v10, (IntKind.wrap .i64 (m1 + 1)), m3_0, m3_1, m3_2, m4)
        else
          none
      else
        none
    else
      let v14 := Int.tmod (IntKind.wrap .i64 (m1 + 1)) 16
      bif decide (0 ≤ v14 ∧ v14 < 16) then
        let v16 := List.getD m0 (Int.toNat v14) 0
        let v18 := Int.tmod (IntKind.wrap .i64 (m1 + 14)) 16
        bif decide (0 ≤ v18 ∧ v18 < 16) then
          let v20 := List.getD m0 (Int.toNat v18) 0
          (f102.F K (v16, 2, 2, [7, 18])).bind fun y22 =>
          let v26 := setD m0 v2 (IntKind.wrap .u32 ((List.getD m0 v2 0) + (bits .xor .u32 y22.1 (Int.fdiv v16 (2 ^ 3)))))
          (f102.F K (v20, 2, 2, [17, 19])).bind fun y28 =>
          let v32 := setD v26 v2 (IntKind.wrap .u32 ((List.getD v26 v2 0) + (bits .xor .u32 y28.1 (Int.fdiv v20 (2 ^ 10)))))
          let v35 := Int.tmod (IntKind.wrap .i64 (m1 + 9)) 16
          bif decide (0 ≤ v35 ∧ v35 < 16) then
            let v39 := setD v32 v2 (IntKind.wrap .u32 ((List.getD v32 v2 0) + (List.getD v32 (Int.toNat v35) 0)))
            some ((List.getD v39 v2 0), v39, (IntKind.wrap .i64 (m1 + 1)), m3_0, m3_1, m3_2, m4)
          else
            none
        else
          none
      else
        none
  else
    none
def f105.F (K : Nat) (x : f105.Ty1) : Option (f105.Ty0) := f105.T K x.1 x.2.1 x.2.2.1 x.2.2.2.1 x.2.2.2.2.1 x.2.2.2.2.2
def f105.av (_x : f105.Ty1) : List VV := [.ptr 0 0, .ptr 1 0, .ptr 2 0]
def f105.bl (x : f105.Ty1) : List (Nat × Blk) := [(0, ([.ints .u32 16 x.1], 152, .norm)), (1, ([.int .i64 x.2.1], 3, .norm)), (2, ([.ptr 3 1], 133, .norm)), (3, ([.ptr 4 0, .ints .u8 64 x.2.2.1, .int .i64 x.2.2.2.1, .int .u64 x.2.2.2.2.1], 117, .norm)), (4, ([.ints .u32 8 x.2.2.2.2.2], 113, .norm))]
def f105.inA : VS → Option (f105.Ty1)
  | ⟨[(0, .ptr 0 0), (1, .ptr 1 0), (2, .ptr 2 0)], [(0, ([.ints .u32 16 m0], 152, .norm)), (1, ([.int .i64 m1], 3, .norm)), (2, ([.ptr 3 1], 133, .norm)), (3, ([.ptr 4 0, .ints .u8 64 m3_0, .int .i64 m3_1, .int .u64 m3_2], 117, .norm)), (4, ([.ints .u32 8 m4], 113, .norm))], 5⟩ => some (m0, m1, m3_0, m3_1, m3_2, m4)
  | _ => none
def f105.o0 (y : f105.Ty0) : VS := ⟨[(0, .int .u32 y.1)], [(0, ([.ints .u32 16 y.2.1], 152, .norm)), (1, ([.int .i64 y.2.2.1], 3, .norm)), (2, ([.ptr 3 1], 133, .norm)), (3, ([.ptr 4 0, .ints .u8 64 y.2.2.2.1, .int .i64 y.2.2.2.2.1, .int .u64 y.2.2.2.2.2.1], 117, .norm)), (4, ([.ints .u32 8 y.2.2.2.2.2.2], 113, .norm))], 5⟩
def f105.inR : VS → Option (f105.Ty0)
  | ⟨[(0, .int .u32 y)], [(0, ([.ints .u32 16 z0], 152, .norm)), (1, ([.int .i64 z1], 3, .norm)), (2, ([.ptr 3 1], 133, .norm)), (3, ([.ptr 4 0, .ints .u8 64 z3_0, .int .i64 z3_1, .int .u64 z3_2], 117, .norm)), (4, ([.ints .u32 8 z4], 113, .norm))], 5⟩ => some (y, z0, z1, z3_0, z3_1, z3_2, z4)
  | _ => none
noncomputable def f105.E (K : Nat) : Entry := genE 5 f105.inA (f105.F K) (dv1 f105.o0)
theorem f105.ok (K : Nat) : EntryOK Try.prog 105 (f105.E K) := gen_ok mix tys_ok (sp := tabSp [(61, (viewE [(0, .u8)] (f61.E K))), (102, (viewE [(1, .i64)] (f102.E K)))]) (tab_ok ((tab_cons (view_ok (f61.ok K)) (tab_cons (view_ok (f102.ok K)) tab_nil)))) Try.func105 (c := bodyOf Try.f105) (by kernel_rfl) (by kernel_rfl) (loops_none (lp := lpNone) (by kernel_rfl)) (av := f105.av) (bl := f105.bl) (inR := f105.inR) (out := f105.o0) (fuel := 400)
  (by intro s x h; unfold f105.inA at h; split at h <;> simp at h; subst h; rfl) (fun _ => Nat.le_of_ble_eq_true rfl)
  (by intro s y h; unfold f105.inR at h; split at h <;> simp at h <;> subst h <;> rfl) (fun _ _ _ => rfl) (fun _ => by kernel_rfl)
end Go.Proofs

namespace Go.Proofs
open Go.VM
abbrev f90.Ty0 := List Int × Int × List Int × Int × Int × List Int × List Int × List Int × List Int × List Int × Int
abbrev f90.Ty1 := List Int × Int × List Int × Int × Int × List Int × List Int × List Int
abbrev f90.Ty2 := List Int × Int × Int × List Int × List Int × List Int × List Int
abbrev f90.Ty3 := List Int × Int × Int × List Int × List Int × List Int
abbrev f90.Ty4 := List Int × List Int × Int × Int × List Int
noncomputable def f90.c : Code := bodyOf Try.f90
def f90.s0t (K : Nat) (rec : f90.Ty0 → Option (f90.Ty2)) (t16 : List Int) (t17 : Int) (b0_0 : List Int) (b0_1 : Int) (b0_2 : Int) (b1 : List Int) (b2 : List Int) (b3 : List Int) (b4 : List Int) (b5 : List Int) (b6 : Int) : Option (f90.Ty2) :=
  bif (decide (t17 < 64)) then
    bif decide (0 ≤ t17 ∧ t17 < 64) then
      (f102.F K ((List.getD b4 4 0), 3, 3, [6, 11, 25])).bind fun y7 =>
      (f105.F K (b5, b6, b0_0, b0_1, b0_2, b1)).bind fun y19 =>
      let v20 := IntKind.wrap .u32 ((IntKind.wrap .u32 ((IntKind.wrap .u32 ((IntKind.wrap .u32 ((List.getD b4 7 0) + y7.1)) + (bits .or .u32 (bits .and .u32 (List.getD b4 4 0) (List.getD b4 5 0)) (bits .and .u32 (bits .xor .u32 4294967295 (List.getD b4 4 0)) (List.getD b4 6 0))))) + (List.getD t16 (Int.toNat t17) 0))) + y19.1)
      (f102.F K ((List.getD b4 0 0), 3, 3, [2, 13, 22])).bind fun y22 =>
      let v33 := spl b4 1 7 (subI b4 0 7)
      rec (t16, (IntKind.wrap .i64 (t17 + 1)), y19.2.2.2.1, y19.2.2.2.2.1, y19.2.2.2.2.2.1, y19.2.2.2.2.2.2, b2, b3, (setD (setD v33 4 (IntKind.wrap .u32 ((List.getD v33 4 0) + v20))) 0 (IntKind.wrap .u32 (v20 + (IntKind.wrap .u32 (y22.1 + (bits .xor .u32 (bits .and .u32 (List.getD b4 0 0) (bits .xor .u32 (List.getD b4 1 0) (List.getD b4 2 0))) (bits .and .u32 (List.getD b4 1 0) (List.getD b4 2 0)))))))), y19.2.1, y19.2.2.1)
    else
      none
  else
    some (b0_0, b0_1, b0_2, b1, b2, b3, b4)
def f90.s0 (K : Nat) (rec : f90.Ty0 → Option (f90.Ty2)) (x : f90.Ty0) : Option (f90.Ty2) := f90.s0t K rec x.1 x.2.1 x.2.2.1 x.2.2.2.1 x.2.2.2.2.1 x.2.2.2.2.2.1 x.2.2.2.2.2.2.1 x.2.2.2.2.2.2.2.1 x.2.2.2.2.2.2.2.2.1 x.2.2.2.2.2.2.2.2.2.1 x.2.2.2.2.2.2.2.2.2.2
noncomputable def f90.s0.b : Code := (findLoop 0 f90.c).getD .skip
def f90.s0.h : Hint := { lv := [2, 4, 5, 6, 16, 17] }
def f90.s0.ho : Hint := { lv := [2, 4, 5] }
def f90.s0.shp (x : f90.Ty0) : VS := ⟨[(2, .ptr 2 0), (4, .ptr 3 0), (5, .ptr 4 0), (6, .fn 105 [.ptr 5 0, .ptr 6 0, .ptr 7 0]), (16, .agg [.ints .u32 64 x.1]), (17, .int .i64 x.2.1)], [(0, ([.ptr 1 0, .ints .u8 64 x.2.2.1, .int .i64 x.2.2.2.1, .int .u64 x.2.2.2.2.1], 117, .norm)), (1, ([.ints .u32 8 x.2.2.2.2.2.1], 113, .norm)), (2, ([.ints .u32 8 x.2.2.2.2.2.2.1], 113, .norm)), (3, ([.ints .u32 8 x.2.2.2.2.2.2.2.1], 113, .norm)), (4, ([.ints .u32 8 x.2.2.2.2.2.2.2.2.1], 113, .norm)), (5, ([.ints .u32 16 x.2.2.2.2.2.2.2.2.2.1], 152, .norm)), (6, ([.int .i64 x.2.2.2.2.2.2.2.2.2.2], 3, .norm)), (7, ([.ptr 0 1], 133, .norm))], 8⟩
def f90.s0.inX : VS → Option (f90.Ty0)
  | ⟨[(2, .ptr 2 0), (4, .ptr 3 0), (5, .ptr 4 0), (6, .fn 105 [.ptr 5 0, .ptr 6 0, .ptr 7 0]), (16, .agg [.ints .u32 64 t16]), (17, .int .i64 t17)], [(0, ([.ptr 1 0, .ints .u8 64 b0_0, .int .i64 b0_1, .int .u64 b0_2], 117, .norm)), (1, ([.ints .u32 8 b1], 113, .norm)), (2, ([.ints .u32 8 b2], 113, .norm)), (3, ([.ints .u32 8 b3], 113, .norm)), (4, ([.ints .u32 8 b4], 113, .norm)), (5, ([.ints .u32 16 b5], 152, .norm)), (6, ([.int .i64 b6], 3, .norm)), (7, ([.ptr 0 1], 133, .norm))], 8⟩ => some (t16, t17, b0_0, b0_1, b0_2, b1, b2, b3, b4, b5, b6)
  | _ => none
def f90.s0.o0 (y : f90.Ty2) : VS := ⟨[(2, .ptr 2 0), (4, .ptr 3 0), (5, .ptr 4 0)], [(0, ([.ptr 1 0, .ints .u8 64 y.1, .int .i64 y.2.1, .int .u64 y.2.2.1], 117, .norm)), (1, ([.ints .u32 8 y.2.2.2.1], 113, .norm)), (2, ([.ints .u32 8 y.2.2.2.2.1], 113, .norm)), (3, ([.ints .u32 8 y.2.2.2.2.2.1], 113, .norm)), (4, ([.ints .u32 8 y.2.2.2.2.2.2], 113, .norm))], 5⟩
def f90.s0.des : ∀ α : Type, (f90.Ty2) → (Ex → VS → Option α) → Option α := (des1 (.exit 0) f90.s0.o0)
def f90.s0.out : f90.Ty2 → Ex × VS := (fun y => (.exit 0, f90.s0.o0 y))
theorem f90.s0.desOK : ∀ α y (k : Ex → VS → Option α), f90.s0.des α y k = k (f90.s0.out y).1 (f90.s0.out y).2 := (fun _ _ _ => rfl)
def f90.s0.inY : Ex → VS → Option (f90.Ty2)
  | .exit 0, ⟨[(2, .ptr 2 0), (4, .ptr 3 0), (5, .ptr 4 0)], [(0, ([.ptr 1 0, .ints .u8 64 b0_0, .int .i64 b0_1, .int .u64 b0_2], 117, .norm)), (1, ([.ints .u32 8 b1], 113, .norm)), (2, ([.ints .u32 8 b2], 113, .norm)), (3, ([.ints .u32 8 b3], 113, .norm)), (4, ([.ints .u32 8 b4], 113, .norm))], 5⟩ => some (b0_0, b0_1, b0_2, b1, b2, b3, b4)
  | _, _ => none
def f90.s2t (_K : Nat) (rec : f90.Ty1 → Option (f90.Ty3)) (t77 : List Int) (t78 : Int) (b0_0 : List Int) (b0_1 : Int) (b0_2 : Int) (b1 : List Int) (b2 : List Int) (b3 : List Int) : Option (f90.Ty3) :=
  bif (decide (t78 < 8)) then
    bif decide (0 ≤ t78 ∧ t78 < 8) then
      bif decide (0 ≤ t78 ∧ t78 < 8) then
        bif decide (0 ≤ t78 ∧ t78 < 8) then
          rec (t77, (IntKind.wrap .i64 (t78 + 1)), b0_0, b0_1, b0_2, b1, b2, (setD b3 (Int.toNat t78) (IntKind.wrap .u32 ((List.getD b3 (Int.toNat t78) 0) + (List.getD t77 (Int.toNat t78) 0)))))
        else
          none
      else
        none
    else
      none
  else
    some (b0_0, b0_1, b0_2, b1, b2, b3)
def f90.s2 (K : Nat) (rec : f90.Ty1 → Option (f90.Ty3)) (x : f90.Ty1) : Option (f90.Ty3) := f90.s2t K rec x.1 x.2.1 x.2.2.1 x.2.2.2.1 x.2.2.2.2.1 x.2.2.2.2.2.1 x.2.2.2.2.2.2.1 x.2.2.2.2.2.2.2
noncomputable def f90.s2.b : Code := (findLoop 2 f90.c).getD .skip
def f90.s2.h : Hint := { lv := [4, 5, 77, 78] }
def f90.s2.ho : Hint := { lv := [4, 5] }
def f90.s2.shp (x : f90.Ty1) : VS := ⟨[(4, .ptr 2 0), (5, .ptr 3 0), (77, .agg [.ints .u32 8 x.1]), (78, .int .i64 x.2.1)], [(0, ([.ptr 1 0, .ints .u8 64 x.2.2.1, .int .i64 x.2.2.2.1, .int .u64 x.2.2.2.2.1], 117, .norm)), (1, ([.ints .u32 8 x.2.2.2.2.2.1], 113, .norm)), (2, ([.ints .u32 8 x.2.2.2.2.2.2.1], 113, .norm)), (3, ([.ints .u32 8 x.2.2.2.2.2.2.2], 113, .norm))], 4⟩
def f90.s2.inX : VS → Option (f90.Ty1)
  | ⟨[(4, .ptr 2 0), (5, .ptr 3 0), (77, .agg [.ints .u32 8 t77]), (78, .int .i64 t78)], [(0, ([.ptr 1 0, .ints .u8 64 b0_0, .int .i64 b0_1, .int .u64 b0_2], 117, .norm)), (1, ([.ints .u32 8 b1], 113, .norm)), (2, ([.ints .u32 8 b2], 113, .norm)), (3, ([.ints .u32 8 b3], 113, .norm))], 4⟩ => some (t77, t78, b0_0, b0_1, b0_2, b1, b2, b3)
  | _ => none
def f90.s2.o0 (y : f90.Ty3) : VS := ⟨[(4, .ptr 2 0), (5, .ptr 3 0)], [(0, ([.ptr 1 0, .ints .u8 64 y.1, .int .i64 y.2.1, .int .u64 y.2.2.1], 117, .norm)), (1, ([.ints .u32 8 y.2.2.2.1], 113, .norm)), (2, ([.ints .u32 8 y.2.2.2.2.1], 113, .norm)), (3, ([.ints .u32 8 y.2.2.2.2.2], 113, .norm))], 4⟩
def f90.s2.des : ∀ α : Type, (f90.Ty3) → (Ex → VS → Option α) → Option α := (des1 (.exit 2) f90.s2.o0)
def f90.s2.out : f90.Ty3 → Ex × VS := (fun y => (.exit 2, f90.s2.o0 y))
theorem f90.s2.desOK : ∀ α y (k : Ex → VS → Option α), f90.s2.des α y k = k (f90.s2.out y).1 (f90.s2.out y).2 := (fun _ _ _ => rfl)
def f90.s2.inY : Ex → VS → Option (f90.Ty3)
  | .exit 2, ⟨[(4, .ptr 2 0), (5, .ptr 3 0)], [(0, ([.ptr 1 0, .ints .u8 64 b0_0, .int .i64 b0_1, .int .u64 b0_2], 117, .norm)), (1, ([.ints .u32 8 b1], 113, .norm)), (2, ([.ints .u32 8 b2], 113, .norm)), (3, ([.ints .u32 8 b3], 113, .norm))], 4⟩ => some (b0_0, b0_1, b0_2, b1, b2, b3)
  | _, _ => none
def f90.lp (K : Nat) : Nat → Option (Hint × Summ) := tabLp [(0, f90.s0.h, summOf (iter (f90.s0 K) K) f90.s0.inX f90.s0.des), (2, f90.s2.h, summOf (iter (f90.s2 K) K) f90.s2.inX f90.s2.des)]
noncomputable def f90.tab (K : Nat) : List (Nat × Entry) := [(100, (f100.E K)), (101, (f101.E K)), (102, (viewE [(1, .i64)] (f102.E K))), (105, (f105.E K))]
theorem f90.tabOK (K : Nat) : SpecOK Try.prog (tabSp (f90.tab K)) := tab_ok ((tab_cons (f100.ok K) (tab_cons (f101.ok K) (tab_cons (view_ok (f102.ok K)) (tab_cons (f105.ok K) tab_nil)))))
theorem f90.s0.eq (K : Nat) (rec : f90.Ty0 → Option (f90.Ty2)) (x : f90.Ty0) : f90.s0 K rec x = roundL (getA tys) (tabSp (f90.tab K)) 90 2 (f90.lp K) 400 f90.s0.b f90.s0.h f90.s0.ho f90.s0.shp f90.s0.inX f90.s0.inY rec x := by kernel_rfl
theorem f90.s0.lok (K : Nat) : LoopsOK Try.prog 90 2 (f90.lp K) f90.s0.b := loops_ok (by
  have h : loopsIn (f90.lp K) f90.s0.b = [] := by kernel_rfl
  rw [h]; simp)
theorem f90.s0.ok (K : Nat) : SummOK Try.prog 90 2 (summOf (iter (f90.s0 K) K) f90.s0.inX f90.s0.des) f90.s0.b :=
  loop_ok mix tys_ok (f90.tabOK K) (h := f90.s0.h) (ho := f90.s0.ho) (shp := f90.s0.shp) (inX := f90.s0.inX) (des := f90.s0.des) (out := f90.s0.out) (inY := f90.s0.inY) (fuel := 400)
    (by intro st x h; unfold f90.s0.inX at h; split at h <;> simp at h; subst h; rfl)
    (by intro e st y h; unfold f90.s0.inY at h; split at h <;> simp at h <;> subst h <;> rfl)
    f90.s0.desOK (f90.s0.lok K) (f90.s0 K) (f90.s0.eq K) K
theorem f90.s2.eq (K : Nat) (rec : f90.Ty1 → Option (f90.Ty3)) (x : f90.Ty1) : f90.s2 K rec x = roundL (getA tys) (tabSp (f90.tab K)) 90 2 (f90.lp K) 400 f90.s2.b f90.s2.h f90.s2.ho f90.s2.shp f90.s2.inX f90.s2.inY rec x := by kernel_rfl
theorem f90.s2.lok (K : Nat) : LoopsOK Try.prog 90 2 (f90.lp K) f90.s2.b := loops_ok (by
  have h : loopsIn (f90.lp K) f90.s2.b = [] := by kernel_rfl
  rw [h]; simp)
theorem f90.s2.ok (K : Nat) : SummOK Try.prog 90 2 (summOf (iter (f90.s2 K) K) f90.s2.inX f90.s2.des) f90.s2.b :=
  loop_ok mix tys_ok (f90.tabOK K) (h := f90.s2.h) (ho := f90.s2.ho) (shp := f90.s2.shp) (inX := f90.s2.inX) (des := f90.s2.des) (out := f90.s2.out) (inY := f90.s2.inY) (fuel := 400)
    (by intro st x h; unfold f90.s2.inX at h; split at h <;> simp at h; subst h; rfl)
    (by intro e st y h; unfold f90.s2.inY at h; split at h <;> simp at h <;> subst h <;> rfl)
    f90.s2.desOK (f90.s2.lok K) (f90.s2 K) (f90.s2.eq K) K
theorem f90.loops (K : Nat) : LoopsOK Try.prog 90 2 (f90.lp K) f90.c := loops_ok (by
  have h : loopsIn (f90.lp K) f90.c = [(0, f90.s0.b), (2, f90.s2.b)] := by kernel_rfl
  rw [h]
  intro p hp
  simp only [List.mem_cons, List.not_mem_nil, or_false] at hp
  rcases hp with rfl | rfl
  · exact ⟨_, rfl, (f90.s0.ok K)⟩
  · exact ⟨_, rfl, (f90.s2.ok K)⟩)
def f90.T (K : Nat) (a0 : List Int) (m0_0 : List Int) (m0_1 : Int) (m0_2 : Int) (m1 : List Int) : Option (f90.Ty4) :=
  (f100.F K (m0_0, m0_1, m0_2, m1)).bind fun y1 =>
  (f101.F K ()).bind fun y2 =>
  (iter (f90.s0 K) K (y2, 0, y1.1, y1.2.1, y1.2.2.1, y1.2.2.2.1, a0, [0, 0, 0, 0, 0, 0, 0, 0], a0, y1.2.2.2.2.1, y1.2.2.2.2.2)).bind fun y40 =>
  (iter (f90.s2 K) K (y40.2.2.2.2.1, 0, y40.1, y40.2.1, y40.2.2.1, y40.2.2.2.1, y40.2.2.2.2.2.1, y40.2.2.2.2.2.2)).bind fun y50 =>
  some (y50.2.2.2.2.2, y50.1, y50.2.1, y50.2.2.1, y50.2.2.2.1)
def f90.F (K : Nat) (x : f90.Ty4) : Option (f90.Ty4) := f90.T K x.1 x.2.1 x.2.2.1 x.2.2.2.1 x.2.2.2.2
def f90.av (x : f90.Ty4) : List VV := [.agg [.ints .u32 8 x.1], .ptr 0 1]
def f90.bl (x : f90.Ty4) : List (Nat × Blk) := [(0, ([.ptr 1 0, .ints .u8 64 x.2.1, .int .i64 x.2.2.1, .int .u64 x.2.2.2.1], 117, .norm)), (1, ([.ints .u32 8 x.2.2.2.2], 113, .norm))]
def f90.inA : VS → Option (f90.Ty4)
  | ⟨[(0, .agg [.ints .u32 8 a0]), (1, .ptr 0 1)], [(0, ([.ptr 1 0, .ints .u8 64 m0_0, .int .i64 m0_1, .int .u64 m0_2], 117, .norm)), (1, ([.ints .u32 8 m1], 113, .norm))], 2⟩ => some (a0, m0_0, m0_1, m0_2, m1)
  | _ => none
def f90.o0 (y : f90.Ty4) : VS := ⟨[(0, .agg [.ints .u32 8 y.1])], [(0, ([.ptr 1 0, .ints .u8 64 y.2.1, .int .i64 y.2.2.1, .int .u64 y.2.2.2.1], 117, .norm)), (1, ([.ints .u32 8 y.2.2.2.2], 113, .norm))], 2⟩
def f90.des : ∀ α : Type, (f90.Ty4) → (VS → Option α) → Option α := (dv1 f90.o0)
def f90.out : f90.Ty4 → VS := f90.o0
def f90.inR : VS → Option (f90.Ty4)
  | ⟨[(0, .agg [.ints .u32 8 y])], [(0, ([.ptr 1 0, .ints .u8 64 z0_0, .int .i64 z0_1, .int .u64 z0_2], 117, .norm)), (1, ([.ints .u32 8 z1], 113, .norm))], 2⟩ => some (y, z0_0, z0_1, z0_2, z1)
  | _ => none
noncomputable def f90.E (K : Nat) : Entry := genE 2 f90.inA (f90.F K) f90.des
theorem f90.eq (K : Nat) (x : f90.Ty4) : f90.F K x = xrun (getA tys) (tabSp (f90.tab K)) Try.f90.ntmps 2 (f90.lp K) 400 f90.c ⟨initL 0 (f90.av x), f90.bl x, 2⟩ (contF (getA tys) 2 Try.f90.results.toList f90.inR) := by kernel_rfl
theorem f90.ok (K : Nat) : EntryOK Try.prog 90 (f90.E K) :=
  gen_ok mix tys_ok (f90.tabOK K) Try.func90 (by kernel_rfl : Try.f90.body = some f90.c) (by kernel_rfl) (f90.loops K) (av := f90.av) (bl := f90.bl) (out := f90.out) (fuel := 400)
    (by intro s x h; unfold f90.inA at h; split at h <;> simp at h; subst h; rfl) (fun _ => Nat.le_of_ble_eq_true rfl)
    (by intro s y h; unfold f90.inR at h; split at h <;> simp at h <;> subst h <;> rfl) (fun _ _ _ => rfl) (f90.eq K)
end Go.Proofs

namespace Go.Proofs
open Go.VM
def Sh.rot (x u v : Int) : Int := bits .or .u32 (shiftI .shl .u32 x u) (shiftI .shr .u32 x v)
def Sh.downs (x : Int) (L : List Nat) : Int := L.foldl (fun a k => bits .xor .u32 a (Sh.rot x ((32 - k : Nat) : Int) (k : Int))) 0
theorem Sh.turn : ∀ k : Fin 32, 1 ≤ k.val → bits .and .u64 (IntKind.wrap .u64 (IntKind.wrap .i64 (0 - (k.val : Int)))) 31 = ((32 - k.val : Nat) : Int) ∧ IntKind.wrap .u64 (32 - ((32 - k.val : Nat) : Int)) = (k.val : Int) := by decide +kernel
theorem f106.spec (K : Nat) (x : Int) (k : Nat) (h1 : 1 ≤ k) (h2 : k ≤ 31) : f106.F K (x, IntKind.wrap .i64 (0 - (k : Int))) = some (Sh.rot x ((32 - k : Nat) : Int) (k : Int)) := by
  obtain ⟨e1, e2⟩ := Sh.turn ⟨k, by omega⟩ h1
  simp only [f106.F, f106.T]
  simp only [] at e1 e2
  rw [e1, e2, decide_eq_true (show (0 : Int) ≤ ((32 - k : Nat) : Int) by omega), cond_t, decide_eq_true (show (0 : Int) ≤ (k : Int) by omega), cond_t, Sh.rot]
theorem f102.spec (K : Nat) (x : Int) (L : List Nat) (n : Nat) (hn : L.length = n) (h : ∀ k ∈ L, 1 ≤ k ∧ k ≤ 31) (hK : n < K) (hs : n < 1000000) :
    f102.F K (x, n, n, L.map fun k : Nat => (k : Int)) = some (Sh.downs x L, n, L.map fun k : Nat => (k : Int)) := by
  have := iter_for (stp := f102.s0 K) (N := n) (fun i => (x, Sh.downs x (L.take i), n, ((n : Nat) : Int), (i : Int), n, L.map fun k : Nat => (k : Int))) (y := some (Sh.downs x L, n, L.map fun k : Nat => (k : Int))) ?_ ?_ hK
  · simp only [f102.F, f102.T]
    rw [show iter (f102.s0 K) K (x, 0, n, ((n : Nat) : Int), 0, n, L.map fun k : Nat => (k : Int)) = _ from this, bind_s]
  · intro i hi rec
    simp only [f102.s0, f102.s0t]
    have hm : i < L.length := by omega
    have hg : List.getD (L.map fun k : Nat => (k : Int)) i 0 = ((L[i] : Nat) : Int) := by simp [List.getD_eq_getElem?_getD, hm]
    obtain ⟨h1, h2⟩ := h L[i] (List.getElem_mem hm)
    rw [decide_eq_true (show (i : Int) < ((n : Nat) : Int) by omega), cond_t, decide_eq_true (show (0 : Int) ≤ (i : Int) ∧ (i : Int) < ((n : Nat) : Int) by omega), cond_t, Int.toNat_natCast, Nat.zero_add, show Nat.blt i n = true from by simp [Nat.blt_eq]; omega, cond_t, hg, f106.spec K x _ h1 h2, bind_s, wrap_i _ (by omega) (by omega)]
    have e : L.take (i + 1) = L.take i ++ [L[i]] := by rw [List.take_add_one, List.getElem?_eq_getElem hm]; rfl
    rw [e, Sh.downs, Sh.downs, List.foldl_append]
    rfl
  · intro rec
    simp only [f102.s0, f102.s0t]
    rw [decide_eq_false (show ¬ ((n : Nat) : Int) < ((n : Nat) : Int) by omega), cond_f, List.take_of_length_le (by omega)]
def Sh.sched (w b : List Int) (t : Nat) : List Int :=
  if t < 16 then setD w (t % 16) (IntKind.wrap .u32 ((tv (subI b (4 * t) 4) : Nat) : Int))
  else
    let x := List.getD w ((t + 1) % 16) 0
    let y := List.getD w ((t + 14) % 16) 0
    let w1 := setD w (t % 16) (IntKind.wrap .u32 ((List.getD w (t % 16) 0) + (bits .xor .u32 (Sh.downs x [7, 18]) (Int.fdiv x (2 ^ 3)))))
    let w2 := setD w1 (t % 16) (IntKind.wrap .u32 ((List.getD w1 (t % 16) 0) + (bits .xor .u32 (Sh.downs y [17, 19]) (Int.fdiv y (2 ^ 10)))))
    setD w2 (t % 16) (IntKind.wrap .u32 ((List.getD w2 (t % 16) 0) + (List.getD w2 ((t + 9) % 16) 0)))
theorem f105.spec (K t : Nat) (w b s : List Int) (hd mn : Int) (ht : t < 64) (ho : octets b) (hK : 8 < K) :
    f105.F K (w, (t : Int), b, hd, mn, s) = some (List.getD (Sh.sched w b t) (t % 16) 0, Sh.sched w b t, ((t + 1 : Nat) : Int), b, hd, mn, s) := by
  simp only [f105.F, f105.T]
  have m0 : Int.tmod (t : Int) 16 = ((t % 16 : Nat) : Int) := tmod_nat t 16
  have m1 : ∀ k : Nat, k < 100 → Int.tmod (IntKind.wrap .i64 ((t : Int) + (k : Int))) 16 = (((t + k) % 16 : Nat) : Int) := fun k hk => by
    rw [wrap_i _ (by omega) (by omega), show ((t : Int) + (k : Int)) = ((t + k : Nat) : Int) by omega]; exact tmod_nat (t + k) 16
  have m2 : ∀ k : Nat, decide ((0 : Int) ≤ ((k % 16 : Nat) : Int) ∧ ((k % 16 : Nat) : Int) < 16) = true := fun k => decide_eq_true (by omega)
  have e1 : Int.tmod (IntKind.wrap .i64 ((t : Int) + 1)) 16 = (((t + 1) % 16 : Nat) : Int) := m1 1 (by omega)
  have e14 : Int.tmod (IntKind.wrap .i64 ((t : Int) + 14)) 16 = (((t + 14) % 16 : Nat) : Int) := m1 14 (by omega)
  have e9 : Int.tmod (IntKind.wrap .i64 ((t : Int) + 9)) 16 = (((t + 9) % 16 : Nat) : Int) := m1 9 (by omega)
  have et : IntKind.wrap .i64 ((t : Int) + 1) = ((t + 1 : Nat) : Int) := by rw [wrap_i _ (by omega) (by omega)]; omega
  rw [m0, m2, cond_t]
  rcases Nat.lt_or_ge t 16 with h | h
  · rw [decide_eq_true (show (t : Int) < 16 by omega), cond_t]
    have e4 : IntKind.wrap .i64 (4 * (t : Int)) = ((4 * t : Nat) : Int) := by rw [wrap_i _ (by omega) (by omega)]; omega
    have e6 : (bif Nat.beq 64 (4 * t) then 0 else 4 * t) = 4 * t := by
      rw [show Nat.beq 64 (4 * t) = false from (by rw [← Bool.not_eq_true, Nat.beq_eq]; omega), cond_f]
    have es := f61.spec K (64 - 4 * t) 4 (subI b (4 * t) (64 - 4 * t)) (subI_length _ _ _) (octets_sub ho _ _) (by omega) (by omega) (by omega) hK
    have ek : (subI b (4 * t) (64 - 4 * t)).take 4 = subI b (4 * t) 4 := by
      rw [subI, subI, ← List.map_take, List.take_range, Nat.min_eq_left (by omega)]
    rw [ek] at es
    rw [e4, decide_eq_true (show (0 : Int) ≤ ((4 * t : Nat) : Int) ∧ ((4 * t : Nat) : Int) ≤ 64 by omega), cond_t]
    simp only [Int.toNat_natCast]
    rw [e6, ble_true (show 4 * t + (64 - 4 * t) ≤ 64 by omega), ble_true (Nat.le_refl (64 - 4 * t)), Bool.and_self, Bool.and_self, cond_t, show ((4 : Int)) = ((4 : Nat) : Int) from rfl, es, bind_s, et]
    simp only [Sh.sched, if_pos h]
  · rw [decide_eq_false (show ¬ (t : Int) < 16 by omega), cond_f, e1, m2, cond_t, e14, m2, cond_t]
    simp only [Int.toNat_natCast]
    have d1 := f102.spec K (List.getD w ((t + 1) % 16) 0) [7, 18] 2 rfl (by decide) (by omega) (by omega)
    have d2 := f102.spec K (List.getD w ((t + 14) % 16) 0) [17, 19] 2 rfl (by decide) (by omega) (by omega)
    simp only [List.map_cons, List.map_nil] at d1 d2
    rw [show ((7 : Int)) = ((7 : Nat) : Int) from rfl, show ((18 : Int)) = ((18 : Nat) : Int) from rfl, d1, bind_s, show ((17 : Int)) = ((17 : Nat) : Int) from rfl, show ((19 : Int)) = ((19 : Nat) : Int) from rfl, d2, bind_s, e9, m2, cond_t, et]
    simp only [Sh.sched, if_neg (show ¬ t < 16 by omega), Int.toNat_natCast]
def Sh.consts : List Int := [1116352408, 1899447441, 3049323471, 3921009573, 961987163, 1508970993, 2453635748, 2870763221, 3624381080, 310598401, 607225278, 1426881987, 1925078388, 2162078206, 2614888103, 3248222580, 3835390401, 4022224774, 264347078, 604807628, 770255983, 1249150122, 1555081692, 1996064986, 2554220882, 2821834349, 2952996808, 3210313671, 3336571891, 3584528711, 113926993, 338241895, 666307205, 773529912, 1294757372, 1396182291, 1695183700, 1986661051, 2177026350, 2456956037, 2730485921, 2820302411, 3259730800, 3345764771, 3516065817, 3600352804, 4094571909, 275423344, 430227734, 506948616, 659060556, 883997877, 958139571, 1322822218, 1537002063, 1747873779, 1955562222, 2024104815, 2227730452, 2361852424, 2428436474, 2756734187, 3204031479, 3329325298]
def Sh.step (b : List Int) (t : Nat) (vw : List Int × List Int) : List Int × List Int :=
  let v := vw.1
  let w := Sh.sched vw.2 b t
  let t1 := IntKind.wrap .u32 ((IntKind.wrap .u32 ((IntKind.wrap .u32 ((IntKind.wrap .u32 ((List.getD v 7 0) + Sh.downs (List.getD v 4 0) [6, 11, 25])) + (bits .or .u32 (bits .and .u32 (List.getD v 4 0) (List.getD v 5 0)) (bits .and .u32 (bits .xor .u32 4294967295 (List.getD v 4 0)) (List.getD v 6 0))))) + (List.getD Sh.consts t 0))) + List.getD w (t % 16) 0)
  let v33 := spl v 1 7 (subI v 0 7)
  (setD (setD v33 4 (IntKind.wrap .u32 ((List.getD v33 4 0) + t1))) 0 (IntKind.wrap .u32 (t1 + (IntKind.wrap .u32 (Sh.downs (List.getD v 0 0) [2, 13, 22] + (bits .xor .u32 (bits .and .u32 (List.getD v 0 0) (bits .xor .u32 (List.getD v 1 0) (List.getD v 2 0))) (bits .and .u32 (List.getD v 1 0) (List.getD v 2 0))))))), w)
def Sh.rounds (s b : List Int) : Nat → List Int × List Int
  | 0 => (s, [0, 0, 0, 0, 0, 0, 0, 0, 0, 0, 0, 0, 0, 0, 0, 0])
  | t + 1 => Sh.step b t (Sh.rounds s b t)
def Sh.added (v s : List Int) : Nat → List Int
  | 0 => s
  | i + 1 => setD (Sh.added v s i) i (IntKind.wrap .u32 (List.getD (Sh.added v s i) i 0 + List.getD v i 0))
def Sh.comp (s b : List Int) : List Int := Sh.added s (Sh.rounds s b 64).1 8
theorem f90.rounds (K : Nat) (s b : List Int) (hd mn : Int) (ho : octets b) (hK : 64 < K) (z : List Int) :
    iter (f90.s0 K) K (Sh.consts, 0, b, hd, mn, s, s, z, s, [0, 0, 0, 0, 0, 0, 0, 0, 0, 0, 0, 0, 0, 0, 0, 0], 0) = some (b, hd, mn, s, s, z, (Sh.rounds s b 64).1) := by
  have := iter_for (stp := f90.s0 K) (N := 64) (fun i => (Sh.consts, (i : Int), b, hd, mn, s, s, z, (Sh.rounds s b i).1, (Sh.rounds s b i).2, (i : Int))) (y := some (b, hd, mn, s, s, z, (Sh.rounds s b 64).1)) ?_ ?_ hK
  · exact this
  · intro i hi rec
    simp only [f90.s0, f90.s0t]
    have d1 := f102.spec K (List.getD (Sh.rounds s b i).1 4 0) [6, 11, 25] 3 rfl (by decide) (by omega) (by omega)
    have d2 := f102.spec K (List.getD (Sh.rounds s b i).1 0 0) [2, 13, 22] 3 rfl (by decide) (by omega) (by omega)
    simp only [List.map_cons, List.map_nil] at d1 d2
    rw [decide_eq_true (show (i : Int) < 64 by omega), cond_t, decide_eq_true (show (0 : Int) ≤ (i : Int) ∧ (i : Int) < 64 by omega), cond_t]
    rw [show ((6 : Int)) = ((6 : Nat) : Int) from rfl, show ((11 : Int)) = ((11 : Nat) : Int) from rfl, show ((25 : Int)) = ((25 : Nat) : Int) from rfl, d1, bind_s, f105.spec K i _ b s hd mn hi ho (by omega), bind_s]
    rw [show ((2 : Int)) = ((2 : Nat) : Int) from rfl, show ((13 : Int)) = ((13 : Nat) : Int) from rfl, show ((22 : Int)) = ((22 : Nat) : Int) from rfl, d2, bind_s, wrap_i _ (by omega) (by omega)]
    rfl
  · intro rec
    simp only [f90.s0, f90.s0t]
    rfl
theorem f90.sums (K : Nat) (s v b : List Int) (hd mn : Int) (a1 a2 : List Int) (hK : 8 < K) :
    iter (f90.s2 K) K (v, 0, b, hd, mn, a1, a2, s) = some (b, hd, mn, a1, a2, Sh.added v s 8) := by
  have := iter_for (stp := f90.s2 K) (N := 8) (fun i => (v, (i : Int), b, hd, mn, a1, a2, Sh.added v s i)) (y := some (b, hd, mn, a1, a2, Sh.added v s 8)) ?_ ?_ hK
  · exact this
  · intro i hi rec
    simp only [f90.s2, f90.s2t]
    rw [decide_eq_true (show (i : Int) < 8 by omega), cond_t, decide_eq_true (show (0 : Int) ≤ (i : Int) ∧ (i : Int) < 8 by omega), cond_t, cond_t, cond_t, Int.toNat_natCast, wrap_i _ (by omega) (by omega)]
    rfl
  · intro rec
    simp only [f90.s2, f90.s2t]
    rfl
theorem f90.spec (K : Nat) (s b : List Int) (hd mn : Int) (ho : octets b) (hK : 64 < K) : f90.F K (s, b, hd, mn, s) = some (Sh.comp s b, b, hd, mn, s) := by
  simp only [f90.F, f90.T]
  rw [show f100.F K (b, hd, mn, s) = some (b, hd, mn, s, [0, 0, 0, 0, 0, 0, 0, 0, 0, 0, 0, 0, 0, 0, 0, 0], 0) from rfl, bind_s, show f101.F K () = some Sh.consts from rfl, bind_s]
  simp only []
  rw [f90.rounds K s b hd mn ho hK, bind_s]
  simp only []
  rw [f90.sums K _ s b hd mn s [0, 0, 0, 0, 0, 0, 0, 0] (by omega), bind_s]
  rfl
end Go.Proofs

namespace Go.Proofs
open Go.VM
end Go.Proofs

namespace Go.Proofs
open Go.VM
abbrev f57.Ty0 := Nat × Nat × List Int × Int × Int × Nat × Nat × List Int × List Int
abbrev f57.Ty1 := List Int × Int × Int × Nat × Nat × List Int × List Int
abbrev f57.Ty2 := List Int × Int × Int × Nat × List Int × Nat × List Int
noncomputable def f57.c : Code := bodyOf Try.f57
def f57.s2t (K : Nat) (rec : f57.Ty0 → Option (f57.Ty1)) (t5_0 : Nat) (t5_1 : Nat) (b0_0 : List Int) (b0_1 : Int) (b0_2 : Int) (b1 : Nat) (b4_0 : Nat) (b4_1 : List Int) (b7 : List Int) : Option (f57.Ty1) :=
  bif (decide (((t5_1 : Nat) : Int) > 0)) then
    bif decide (0 ≤ b0_1 ∧ b0_1 ≤ 64) then
      let v6 := bif Nat.beq 64 (Int.toNat b0_1) then 0 else (Int.toNat b0_1)
      let v7 := 64 - (Int.toNat b0_1)
      bif (((Nat.ble (t5_0 + t5_1) b4_0 && true) && (Nat.ble (v6 + v7) 64)) && (Nat.beq t5_1 t5_1)) then
        let v9 := ((Nat.min t5_1 v7 : Nat) : Int)
        let v10 := spl b0_0 v6 (Nat.min t5_1 v7) (subI b4_1 t5_0 t5_1)
        bif decide (0 ≤ v9 ∧ v9 ≤ ((t5_1 : Nat) : Int)) then
          let v11 := t5_0 + (Int.toNat v9)
          let v12 := t5_1 - (Int.toNat v9)
          let v13 := IntKind.wrap .i64 (b0_1 + v9)
          bif (v13 == 64) then
            (f90.F K (b7, v10, v13, b0_2, b7)).bind fun y14 =>
            rec (v11, v12, y14.2.1, 0, y14.2.2.2.1, b1, b4_0, b4_1, y14.1)
          else
            rec (v11, v12, v10, v13, b0_2, b1, b4_0, b4_1, b7)
        else
          none
      else
        none
    else
      none
  else
    some (b0_0, b0_1, b0_2, b1, b4_0, b4_1, b7)
def f57.s2 (K : Nat) (rec : f57.Ty0 → Option (f57.Ty1)) (x : f57.Ty0) : Option (f57.Ty1) := f57.s2t K rec x.1 x.2.1 x.2.2.1 x.2.2.2.1 x.2.2.2.2.1 x.2.2.2.2.2.1 x.2.2.2.2.2.2.1 x.2.2.2.2.2.2.2.1 x.2.2.2.2.2.2.2.2
noncomputable def f57.s2.b : Code := (findLoop 2 f57.c).getD .skip
def f57.s2.h : Hint := { lv := [0, 5, 8, 9, 10], co := [(5, 0, [])], mv := [3] }
def f57.s2.ho : Hint := { lv := [0, 8, 9, 10] }
def f57.s2.shp (x : f57.Ty0) : VS := ⟨[(0, .ptr 0 0), (5, .vw true 4 x.1 x.2.1 6), (8, .vw true 1 0 1 2), (9, .int .i64 1), (10, .int .i64 0)], [(0, ([.ptr 7 0, .ints .u8 64 x.2.2.1, .int .i64 x.2.2.2.1, .int .u64 x.2.2.2.2.1], 117, .norm)), (1, ([.vw true 4 0 x.2.2.2.2.2.1 5], 0, .ro)), (3, ([], 113, .dead)), (4, ([.ints .u8 x.2.2.2.2.2.2.1 x.2.2.2.2.2.2.2.1], 0, .ro)), (7, ([.ints .u32 8 x.2.2.2.2.2.2.2.2], 113, .norm))], 8⟩
def f57.s2.inX : VS → Option (f57.Ty0)
  | ⟨[(0, .ptr 0 0), (5, .vw true 4 t5_0 t5_1 6), (8, .vw true 1 0 1 2), (9, .int .i64 1), (10, .int .i64 0)], [(0, ([.ptr 7 0, .ints .u8 64 b0_0, .int .i64 b0_1, .int .u64 b0_2], 117, .norm)), (1, ([.vw true 4 0 b1 5], 0, .ro)), (3, ([], 113, .dead)), (4, ([.ints .u8 b4_0 b4_1], 0, .ro)), (7, ([.ints .u32 8 b7], 113, .norm))], 8⟩ => some (t5_0, t5_1, b0_0, b0_1, b0_2, b1, b4_0, b4_1, b7)
  | _ => none
def f57.s2.o0 (y : f57.Ty1) : VS := ⟨[(0, .ptr 0 0), (8, .vw true 1 0 1 2), (9, .int .i64 1), (10, .int .i64 0)], [(0, ([.ptr 6 0, .ints .u8 64 y.1, .int .i64 y.2.1, .int .u64 y.2.2.1], 117, .norm)), (1, ([.vw true 4 0 y.2.2.2.1 5], 0, .ro)), (3, ([], 113, .dead)), (4, ([.ints .u8 y.2.2.2.2.1 y.2.2.2.2.2.1], 0, .ro)), (6, ([.ints .u32 8 y.2.2.2.2.2.2], 113, .norm))], 7⟩
def f57.s2.des : ∀ α : Type, (f57.Ty1) → (Ex → VS → Option α) → Option α := (des1 (.exit 2) f57.s2.o0)
def f57.s2.out : f57.Ty1 → Ex × VS := (fun y => (.exit 2, f57.s2.o0 y))
theorem f57.s2.desOK : ∀ α y (k : Ex → VS → Option α), f57.s2.des α y k = k (f57.s2.out y).1 (f57.s2.out y).2 := (fun _ _ _ => rfl)
def f57.s2.inY : Ex → VS → Option (f57.Ty1)
  | .exit 2, ⟨[(0, .ptr 0 0), (8, .vw true 1 0 1 2), (9, .int .i64 1), (10, .int .i64 0)], [(0, ([.ptr 6 0, .ints .u8 64 b0_0, .int .i64 b0_1, .int .u64 b0_2], 117, .norm)), (1, ([.vw true 4 0 b1 5], 0, .ro)), (3, ([], 113, .dead)), (4, ([.ints .u8 b4_0 b4_1], 0, .ro)), (6, ([.ints .u32 8 b6], 113, .norm))], 7⟩ => some (b0_0, b0_1, b0_2, b1, b4_0, b4_1, b6)
  | _, _ => none
def f57.lp (K : Nat) : Nat → Option (Hint × Summ) := tabLp [(2, f57.s2.h, summOf (iter (f57.s2 K) K) f57.s2.inX f57.s2.des)]
noncomputable def f57.tab (K : Nat) : List (Nat × Entry) := [(90, (f90.E K))]
theorem f57.tabOK (K : Nat) : SpecOK Try.prog (tabSp (f57.tab K)) := tab_ok ((tab_cons (f90.ok K) tab_nil))
theorem f57.s2.eq (K : Nat) (rec : f57.Ty0 → Option (f57.Ty1)) (x : f57.Ty0) : f57.s2 K rec x = roundL (getA tys) (tabSp (f57.tab K)) 76 6 (f57.lp K) 400 f57.s2.b f57.s2.h f57.s2.ho f57.s2.shp f57.s2.inX f57.s2.inY rec x := by kernel_rfl
theorem f57.s2.lok (K : Nat) : LoopsOK Try.prog 76 6 (f57.lp K) f57.s2.b := loops_ok (by
  have h : loopsIn (f57.lp K) f57.s2.b = [] := by kernel_rfl
  rw [h]; simp)
theorem f57.s2.ok (K : Nat) : SummOK Try.prog 76 6 (summOf (iter (f57.s2 K) K) f57.s2.inX f57.s2.des) f57.s2.b :=
  loop_ok mix tys_ok (f57.tabOK K) (h := f57.s2.h) (ho := f57.s2.ho) (shp := f57.s2.shp) (inX := f57.s2.inX) (des := f57.s2.des) (out := f57.s2.out) (inY := f57.s2.inY) (fuel := 400)
    (by intro st x h; unfold f57.s2.inX at h; split at h <;> simp at h; subst h; rfl)
    (by intro e st y h; unfold f57.s2.inY at h; split at h <;> simp at h <;> subst h <;> rfl)
    f57.s2.desOK (f57.s2.lok K) (f57.s2 K) (f57.s2.eq K) K
theorem f57.loops (K : Nat) : LoopsOK Try.prog 76 6 (f57.lp K) f57.c := loops_ok (by
  have h : loopsIn (f57.lp K) f57.c = [(2, f57.s2.b)] := by kernel_rfl
  rw [h]
  intro p hp
  simp only [List.mem_cons, List.not_mem_nil, or_false] at hp
  rcases hp with rfl
  · exact ⟨_, rfl, (f57.s2.ok K)⟩)
def f57.T (K : Nat) (m0_0 : List Int) (m0_1 : Int) (m0_2 : Int) (m1 : Nat) (m3 : List Int) (m4_0 : Nat) (m4_1 : List Int) : Option (f57.Ty1) :=
  (iter (f57.s2 K) K (0, m1, m0_0, m0_1, (IntKind.wrap .u64 (m0_2 + (IntKind.wrap .u64 ((m1 : Nat) : Int)))), m1, m4_0, m4_1, m3)).bind fun y15 =>
  some (y15.1, y15.2.1, y15.2.2.1, y15.2.2.2.1, y15.2.2.2.2.1, y15.2.2.2.2.2.1, y15.2.2.2.2.2.2)
def f57.F (K : Nat) (x : f57.Ty2) : Option (f57.Ty1) := f57.T K x.1 x.2.1 x.2.2.1 x.2.2.2.1 x.2.2.2.2.1 x.2.2.2.2.2.1 x.2.2.2.2.2.2
def f57.av (_x : f57.Ty2) : List VV := [.ptr 0 0, .vw true 1 0 1 2]
def f57.bl (x : f57.Ty2) : List (Nat × Blk) := [(0, ([.ptr 3 0, .ints .u8 64 x.1, .int .i64 x.2.1, .int .u64 x.2.2.1], 117, .norm)), (1, ([.vw true 4 0 x.2.2.2.1 5], 0, .ro)), (3, ([.ints .u32 8 x.2.2.2.2.1], 113, .norm)), (4, ([.ints .u8 x.2.2.2.2.2.1 x.2.2.2.2.2.2], 0, .ro))]
def f57.inA : VS → Option (f57.Ty2)
  | ⟨[(0, .ptr 0 0), (1, .vw true 1 0 1 2)], [(0, ([.ptr 3 0, .ints .u8 64 m0_0, .int .i64 m0_1, .int .u64 m0_2], 117, .norm)), (1, ([.vw true 4 0 m1 5], 0, .ro)), (3, ([.ints .u32 8 m3], 113, .norm)), (4, ([.ints .u8 m4_0 m4_1], 0, .ro))], 6⟩ => some (m0_0, m0_1, m0_2, m1, m3, m4_0, m4_1)
  | _ => none
def f57.o0 (y : f57.Ty1) : VS := ⟨[(0, .tup [])], [(0, ([.ptr 6 0, .ints .u8 64 y.1, .int .i64 y.2.1, .int .u64 y.2.2.1], 117, .norm)), (1, ([.vw true 4 0 y.2.2.2.1 5], 0, .ro)), (3, ([], 113, .dead)), (4, ([.ints .u8 y.2.2.2.2.1 y.2.2.2.2.2.1], 0, .ro)), (6, ([.ints .u32 8 y.2.2.2.2.2.2], 113, .norm))], 7⟩
def f57.des : ∀ α : Type, (f57.Ty1) → (VS → Option α) → Option α := (dv1 f57.o0)
def f57.out : f57.Ty1 → VS := f57.o0
def f57.inR : VS → Option (f57.Ty1)
  | ⟨[(0, .tup [])], [(0, ([.ptr 6 0, .ints .u8 64 z0_0, .int .i64 z0_1, .int .u64 z0_2], 117, .norm)), (1, ([.vw true 4 0 z1 5], 0, .ro)), (3, ([], 113, .dead)), (4, ([.ints .u8 z4_0 z4_1], 0, .ro)), (6, ([.ints .u32 8 z6], 113, .norm))], 7⟩ => some (z0_0, z0_1, z0_2, z1, z4_0, z4_1, z6)
  | _ => none
noncomputable def f57.E (K : Nat) : Entry := genE 6 f57.inA (f57.F K) f57.des
theorem f57.eq (K : Nat) (x : f57.Ty2) : f57.F K x = xrun (getA tys) (tabSp (f57.tab K)) Try.f57.ntmps 6 (f57.lp K) 400 f57.c ⟨initL 0 (f57.av x), f57.bl x, 6⟩ (contF (getA tys) 6 Try.f57.results.toList f57.inR) := by kernel_rfl
theorem f57.ok (K : Nat) : EntryOK Try.prog 57 (f57.E K) :=
  gen_ok mix tys_ok (f57.tabOK K) Try.func57 (by kernel_rfl : Try.f57.body = some f57.c) (by kernel_rfl) (f57.loops K) (av := f57.av) (bl := f57.bl) (out := f57.out) (fuel := 400)
    (by intro s x h; unfold f57.inA at h; split at h <;> simp at h; subst h; rfl) (fun _ => Nat.le_of_ble_eq_true rfl)
    (by intro s y h; unfold f57.inR at h; split at h <;> simp at h <;> subst h <;> rfl) (fun _ _ _ => rfl) (f57.eq K)
end Go.Proofs

namespace Go.Proofs
open Go.VM
abbrev f57v1.Ty0 := Nat × Nat × List Int × Int × Int × Nat × Nat × Nat × Nat × List Int × Nat × List Int × Nat × List Int × List Int
abbrev f57v1.Ty1 := List Int × Int × Int × Nat × Nat × Nat × Nat × List Int × Nat × List Int × Nat × List Int × List Int
abbrev f57v1.Ty2 := List Int × Int × Int × Nat × Nat × Nat × List Int × Nat × List Int × Nat × List Int × Nat × List Int
noncomputable def f57v1.c : Code := bodyOf Try.f57
def f57v1.s2t (K : Nat) (rec : f57v1.Ty0 → Option (f57v1.Ty1)) (t5_0 : Nat) (t5_1 : Nat) (b0_0 : List Int) (b0_1 : Int) (b0_2 : Int) (b1_0 : Nat) (b1_1 : Nat) (b1_2 : Nat) (b4_0 : Nat) (b4_1 : List Int) (b6_0 : Nat) (b6_1 : List Int) (b8_0 : Nat) (b8_1 : List Int) (b11 : List Int) : Option (f57v1.Ty1) :=
  bif (decide (((t5_1 : Nat) : Int) > 0)) then
    bif decide (0 ≤ b0_1 ∧ b0_1 ≤ 64) then
      let v6 := bif Nat.beq 64 (Int.toNat b0_1) then 0 else (Int.toNat b0_1)
      let v7 := 64 - (Int.toNat b0_1)
      bif (((Nat.ble (t5_0 + t5_1) b4_0 && true) && (Nat.ble (v6 + v7) 64)) && (Nat.beq t5_1 t5_1)) then
        let v9 := ((Nat.min t5_1 v7 : Nat) : Int)
        let v10 := spl b0_0 v6 (Nat.min t5_1 v7) (subI b4_1 t5_0 t5_1)
        bif decide (0 ≤ v9 ∧ v9 ≤ ((t5_1 : Nat) : Int)) then
          let v11 := t5_0 + (Int.toNat v9)
          let v12 := t5_1 - (Int.toNat v9)
          let v13 := IntKind.wrap .i64 (b0_1 + v9)
          bif (v13 == 64) then
            (f90.F K (b11, v10, v13, b0_2, b11)).bind fun y14 =>
            rec (v11, v12, y14.2.1, 0, y14.2.2.2.1, b1_0, b1_1, b1_2, b4_0, b4_1, b6_0, b6_1, b8_0, b8_1, y14.1)
          else
            rec (v11, v12, v10, v13, b0_2, b1_0, b1_1, b1_2, b4_0, b4_1, b6_0, b6_1, b8_0, b8_1, b11)
        else
          none
      else
        none
    else
      none
  else
    some (b0_0, b0_1, b0_2, b1_0, b1_1, b1_2, b4_0, b4_1, b6_0, b6_1, b8_0, b8_1, b11)
def f57v1.s2 (K : Nat) (rec : f57v1.Ty0 → Option (f57v1.Ty1)) (x : f57v1.Ty0) : Option (f57v1.Ty1) := f57v1.s2t K rec x.1 x.2.1 x.2.2.1 x.2.2.2.1 x.2.2.2.2.1 x.2.2.2.2.2.1 x.2.2.2.2.2.2.1 x.2.2.2.2.2.2.2.1 x.2.2.2.2.2.2.2.2.1 x.2.2.2.2.2.2.2.2.2.1 x.2.2.2.2.2.2.2.2.2.2.1 x.2.2.2.2.2.2.2.2.2.2.2.1 x.2.2.2.2.2.2.2.2.2.2.2.2.1 x.2.2.2.2.2.2.2.2.2.2.2.2.2.1 x.2.2.2.2.2.2.2.2.2.2.2.2.2.2
noncomputable def f57v1.s2.b : Code := (findLoop 2 f57v1.c).getD .skip
def f57v1.s2.h : Hint := { lv := [0, 5, 8, 9, 10], co := [(5, 0, [])], mv := [3] }
def f57v1.s2.ho : Hint := { lv := [0, 8, 9, 10] }
def f57v1.s2.shp (x : f57v1.Ty0) : VS := ⟨[(0, .ptr 0 0), (5, .vw true 4 x.1 x.2.1 10), (8, .vw true 1 0 3 2), (9, .int .i64 3), (10, .int .i64 0)], [(0, ([.ptr 11 0, .ints .u8 64 x.2.2.1, .int .i64 x.2.2.2.1, .int .u64 x.2.2.2.2.1], 117, .norm)), (1, ([.vw true 4 0 x.2.2.2.2.2.1 5, .vw true 6 0 x.2.2.2.2.2.2.1 7, .vw true 8 0 x.2.2.2.2.2.2.2.1 9], 0, .ro)), (3, ([], 113, .dead)), (4, ([.ints .u8 x.2.2.2.2.2.2.2.2.1 x.2.2.2.2.2.2.2.2.2.1], 0, .ro)), (6, ([.ints .u8 x.2.2.2.2.2.2.2.2.2.2.1 x.2.2.2.2.2.2.2.2.2.2.2.1], 0, .ro)), (8, ([.ints .u8 x.2.2.2.2.2.2.2.2.2.2.2.2.1 x.2.2.2.2.2.2.2.2.2.2.2.2.2.1], 0, .ro)), (11, ([.ints .u32 8 x.2.2.2.2.2.2.2.2.2.2.2.2.2.2], 113, .norm))], 12⟩
def f57v1.s2.inX : VS → Option (f57v1.Ty0)
  | ⟨[(0, .ptr 0 0), (5, .vw true 4 t5_0 t5_1 10), (8, .vw true 1 0 3 2), (9, .int .i64 3), (10, .int .i64 0)], [(0, ([.ptr 11 0, .ints .u8 64 b0_0, .int .i64 b0_1, .int .u64 b0_2], 117, .norm)), (1, ([.vw true 4 0 b1_0 5, .vw true 6 0 b1_1 7, .vw true 8 0 b1_2 9], 0, .ro)), (3, ([], 113, .dead)), (4, ([.ints .u8 b4_0 b4_1], 0, .ro)), (6, ([.ints .u8 b6_0 b6_1], 0, .ro)), (8, ([.ints .u8 b8_0 b8_1], 0, .ro)), (11, ([.ints .u32 8 b11], 113, .norm))], 12⟩ => some (t5_0, t5_1, b0_0, b0_1, b0_2, b1_0, b1_1, b1_2, b4_0, b4_1, b6_0, b6_1, b8_0, b8_1, b11)
  | _ => none
def f57v1.s2.o0 (y : f57v1.Ty1) : VS := ⟨[(0, .ptr 0 0), (8, .vw true 1 0 3 2), (9, .int .i64 3), (10, .int .i64 0)], [(0, ([.ptr 10 0, .ints .u8 64 y.1, .int .i64 y.2.1, .int .u64 y.2.2.1], 117, .norm)), (1, ([.vw true 4 0 y.2.2.2.1 5, .vw true 6 0 y.2.2.2.2.1 7, .vw true 8 0 y.2.2.2.2.2.1 9], 0, .ro)), (3, ([], 113, .dead)), (4, ([.ints .u8 y.2.2.2.2.2.2.1 y.2.2.2.2.2.2.2.1], 0, .ro)), (6, ([.ints .u8 y.2.2.2.2.2.2.2.2.1 y.2.2.2.2.2.2.2.2.2.1], 0, .ro)), (8, ([.ints .u8 y.2.2.2.2.2.2.2.2.2.2.1 y.2.2.2.2.2.2.2.2.2.2.2.1], 0, .ro)), (10, ([.ints .u32 8 y.2.2.2.2.2.2.2.2.2.2.2.2], 113, .norm))], 11⟩
def f57v1.s2.des : ∀ α : Type, (f57v1.Ty1) → (Ex → VS → Option α) → Option α := (des1 (.exit 2) f57v1.s2.o0)
def f57v1.s2.out : f57v1.Ty1 → Ex × VS := (fun y => (.exit 2, f57v1.s2.o0 y))
theorem f57v1.s2.desOK : ∀ α y (k : Ex → VS → Option α), f57v1.s2.des α y k = k (f57v1.s2.out y).1 (f57v1.s2.out y).2 := (fun _ _ _ => rfl)
def f57v1.s2.inY : Ex → VS → Option (f57v1.Ty1)
  | .exit 2, ⟨[(0, .ptr 0 0), (8, .vw true 1 0 3 2), (9, .int .i64 3), (10, .int .i64 0)], [(0, ([.ptr 10 0, .ints .u8 64 b0_0, .int .i64 b0_1, .int .u64 b0_2], 117, .norm)), (1, ([.vw true 4 0 b1_0 5, .vw true 6 0 b1_1 7, .vw true 8 0 b1_2 9], 0, .ro)), (3, ([], 113, .dead)), (4, ([.ints .u8 b4_0 b4_1], 0, .ro)), (6, ([.ints .u8 b6_0 b6_1], 0, .ro)), (8, ([.ints .u8 b8_0 b8_1], 0, .ro)), (10, ([.ints .u32 8 b10], 113, .norm))], 11⟩ => some (b0_0, b0_1, b0_2, b1_0, b1_1, b1_2, b4_0, b4_1, b6_0, b6_1, b8_0, b8_1, b10)
  | _, _ => none
def f57v1.s2bt (K : Nat) (rec : f57v1.Ty0 → Option (f57v1.Ty1)) (t5_0 : Nat) (t5_1 : Nat) (b0_0 : List Int) (b0_1 : Int) (b0_2 : Int) (b1_0 : Nat) (b1_1 : Nat) (b1_2 : Nat) (b4_0 : Nat) (b4_1 : List Int) (b6_0 : Nat) (b6_1 : List Int) (b8_0 : Nat) (b8_1 : List Int) (b11 : List Int) : Option (f57v1.Ty1) :=
  bif (decide (((t5_1 : Nat) : Int) > 0)) then
    bif decide (0 ≤ b0_1 ∧ b0_1 ≤ 64) then
      let v22 := bif Nat.beq 64 (Int.toNat b0_1) then 0 else (Int.toNat b0_1)
      let v23 := 64 - (Int.toNat b0_1)
      bif (((Nat.ble (t5_0 + t5_1) b6_0 && true) && (Nat.ble (v22 + v23) 64)) && (Nat.beq t5_1 t5_1)) then
        let v25 := ((Nat.min t5_1 v23 : Nat) : Int)
        let v26 := spl b0_0 v22 (Nat.min t5_1 v23) (subI b6_1 t5_0 t5_1)
        bif decide (0 ≤ v25 ∧ v25 ≤ ((t5_1 : Nat) : Int)) then
          let v27 := t5_0 + (Int.toNat v25)
          let v28 := t5_1 - (Int.toNat v25)
          let v29 := IntKind.wrap .i64 (b0_1 + v25)
          bif (v29 == 64) then
            (f90.F K (b11, v26, v29, b0_2, b11)).bind fun y30 =>
            rec (v27, v28, y30.2.1, 0, y30.2.2.2.1, b1_0, b1_1, b1_2, b4_0, b4_1, b6_0, b6_1, b8_0, b8_1, y30.1)
          else
            rec (v27, v28, v26, v29, b0_2, b1_0, b1_1, b1_2, b4_0, b4_1, b6_0, b6_1, b8_0, b8_1, b11)
        else
          none
      else
        none
    else
      none
  else
    some (b0_0, b0_1, b0_2, b1_0, b1_1, b1_2, b4_0, b4_1, b6_0, b6_1, b8_0, b8_1, b11)
def f57v1.s2b (K : Nat) (rec : f57v1.Ty0 → Option (f57v1.Ty1)) (x : f57v1.Ty0) : Option (f57v1.Ty1) := f57v1.s2bt K rec x.1 x.2.1 x.2.2.1 x.2.2.2.1 x.2.2.2.2.1 x.2.2.2.2.2.1 x.2.2.2.2.2.2.1 x.2.2.2.2.2.2.2.1 x.2.2.2.2.2.2.2.2.1 x.2.2.2.2.2.2.2.2.2.1 x.2.2.2.2.2.2.2.2.2.2.1 x.2.2.2.2.2.2.2.2.2.2.2.1 x.2.2.2.2.2.2.2.2.2.2.2.2.1 x.2.2.2.2.2.2.2.2.2.2.2.2.2.1 x.2.2.2.2.2.2.2.2.2.2.2.2.2.2
noncomputable def f57v1.s2b.b : Code := (findLoop 2 f57v1.c).getD .skip
def f57v1.s2b.h : Hint := { lv := [0, 5, 8, 9, 10], co := [(5, 0, [])], mv := [3] }
def f57v1.s2b.ho : Hint := { lv := [0, 8, 9, 10] }
def f57v1.s2b.shp (x : f57v1.Ty0) : VS := ⟨[(0, .ptr 0 0), (5, .vw true 6 x.1 x.2.1 10), (8, .vw true 1 0 3 2), (9, .int .i64 3), (10, .int .i64 1)], [(0, ([.ptr 11 0, .ints .u8 64 x.2.2.1, .int .i64 x.2.2.2.1, .int .u64 x.2.2.2.2.1], 117, .norm)), (1, ([.vw true 4 0 x.2.2.2.2.2.1 5, .vw true 6 0 x.2.2.2.2.2.2.1 7, .vw true 8 0 x.2.2.2.2.2.2.2.1 9], 0, .ro)), (3, ([], 113, .dead)), (4, ([.ints .u8 x.2.2.2.2.2.2.2.2.1 x.2.2.2.2.2.2.2.2.2.1], 0, .ro)), (6, ([.ints .u8 x.2.2.2.2.2.2.2.2.2.2.1 x.2.2.2.2.2.2.2.2.2.2.2.1], 0, .ro)), (8, ([.ints .u8 x.2.2.2.2.2.2.2.2.2.2.2.2.1 x.2.2.2.2.2.2.2.2.2.2.2.2.2.1], 0, .ro)), (11, ([.ints .u32 8 x.2.2.2.2.2.2.2.2.2.2.2.2.2.2], 113, .norm))], 12⟩
def f57v1.s2b.inX : VS → Option (f57v1.Ty0)
  | ⟨[(0, .ptr 0 0), (5, .vw true 6 t5_0 t5_1 10), (8, .vw true 1 0 3 2), (9, .int .i64 3), (10, .int .i64 1)], [(0, ([.ptr 11 0, .ints .u8 64 b0_0, .int .i64 b0_1, .int .u64 b0_2], 117, .norm)), (1, ([.vw true 4 0 b1_0 5, .vw true 6 0 b1_1 7, .vw true 8 0 b1_2 9], 0, .ro)), (3, ([], 113, .dead)), (4, ([.ints .u8 b4_0 b4_1], 0, .ro)), (6, ([.ints .u8 b6_0 b6_1], 0, .ro)), (8, ([.ints .u8 b8_0 b8_1], 0, .ro)), (11, ([.ints .u32 8 b11], 113, .norm))], 12⟩ => some (t5_0, t5_1, b0_0, b0_1, b0_2, b1_0, b1_1, b1_2, b4_0, b4_1, b6_0, b6_1, b8_0, b8_1, b11)
  | _ => none
def f57v1.s2b.o0 (y : f57v1.Ty1) : VS := ⟨[(0, .ptr 0 0), (8, .vw true 1 0 3 2), (9, .int .i64 3), (10, .int .i64 1)], [(0, ([.ptr 10 0, .ints .u8 64 y.1, .int .i64 y.2.1, .int .u64 y.2.2.1], 117, .norm)), (1, ([.vw true 4 0 y.2.2.2.1 5, .vw true 6 0 y.2.2.2.2.1 7, .vw true 8 0 y.2.2.2.2.2.1 9], 0, .ro)), (3, ([], 113, .dead)), (4, ([.ints .u8 y.2.2.2.2.2.2.1 y.2.2.2.2.2.2.2.1], 0, .ro)), (6, ([.ints .u8 y.2.2.2.2.2.2.2.2.1 y.2.2.2.2.2.2.2.2.2.1], 0, .ro)), (8, ([.ints .u8 y.2.2.2.2.2.2.2.2.2.2.1 y.2.2.2.2.2.2.2.2.2.2.2.1], 0, .ro)), (10, ([.ints .u32 8 y.2.2.2.2.2.2.2.2.2.2.2.2], 113, .norm))], 11⟩
def f57v1.s2b.des : ∀ α : Type, (f57v1.Ty1) → (Ex → VS → Option α) → Option α := (des1 (.exit 2) f57v1.s2b.o0)
def f57v1.s2b.out : f57v1.Ty1 → Ex × VS := (fun y => (.exit 2, f57v1.s2b.o0 y))
theorem f57v1.s2b.desOK : ∀ α y (k : Ex → VS → Option α), f57v1.s2b.des α y k = k (f57v1.s2b.out y).1 (f57v1.s2b.out y).2 := (fun _ _ _ => rfl)
def f57v1.s2b.inY : Ex → VS → Option (f57v1.Ty1)
  | .exit 2, ⟨[(0, .ptr 0 0), (8, .vw true 1 0 3 2), (9, .int .i64 3), (10, .int .i64 1)], [(0, ([.ptr 10 0, .ints .u8 64 b0_0, .int .i64 b0_1, .int .u64 b0_2], 117, .norm)), (1, ([.vw true 4 0 b1_0 5, .vw true 6 0 b1_1 7, .vw true 8 0 b1_2 9], 0, .ro)), (3, ([], 113, .dead)), (4, ([.ints .u8 b4_0 b4_1], 0, .ro)), (6, ([.ints .u8 b6_0 b6_1], 0, .ro)), (8, ([.ints .u8 b8_0 b8_1], 0, .ro)), (10, ([.ints .u32 8 b10], 113, .norm))], 11⟩ => some (b0_0, b0_1, b0_2, b1_0, b1_1, b1_2, b4_0, b4_1, b6_0, b6_1, b8_0, b8_1, b10)
  | _, _ => none
def f57v1.s2ct (K : Nat) (rec : f57v1.Ty0 → Option (f57v1.Ty1)) (t5_0 : Nat) (t5_1 : Nat) (b0_0 : List Int) (b0_1 : Int) (b0_2 : Int) (b1_0 : Nat) (b1_1 : Nat) (b1_2 : Nat) (b4_0 : Nat) (b4_1 : List Int) (b6_0 : Nat) (b6_1 : List Int) (b8_0 : Nat) (b8_1 : List Int) (b11 : List Int) : Option (f57v1.Ty1) :=
  bif (decide (((t5_1 : Nat) : Int) > 0)) then
    bif decide (0 ≤ b0_1 ∧ b0_1 ≤ 64) then
      let v38 := bif Nat.beq 64 (Int.toNat b0_1) then 0 else (Int.toNat b0_1)
      let v39 := 64 - (Int.toNat b0_1)
      bif (((Nat.ble (t5_0 + t5_1) b8_0 && true) && (Nat.ble (v38 + v39) 64)) && (Nat.beq t5_1 t5_1)) then
        let v41 := ((Nat.min t5_1 v39 : Nat) : Int)
        let v42 := spl b0_0 v38 (Nat.min t5_1 v39) (subI b8_1 t5_0 t5_1)
        bif decide (0 ≤ v41 ∧ v41 ≤ ((t5_1 : Nat) : Int)) then
          let v43 := t5_0 + (Int.toNat v41)
          let v44 := t5_1 - (Int.toNat v41)
          let v45 := IntKind.wrap .i64 (b0_1 + v41)
          bif (v45 == 64) then
            (f90.F K (b11, v42, v45, b0_2, b11)).bind fun y46 =>
            rec (v43, v44, y46.2.1, 0, y46.2.2.2.1, b1_0, b1_1, b1_2, b4_0, b4_1, b6_0, b6_1, b8_0, b8_1, y46.1)
          else
            rec (v43, v44, v42, v45, b0_2, b1_0, b1_1, b1_2, b4_0, b4_1, b6_0, b6_1, b8_0, b8_1, b11)
        else
          none
      else
        none
    else
      none
  else
    some (b0_0, b0_1, b0_2, b1_0, b1_1, b1_2, b4_0, b4_1, b6_0, b6_1, b8_0, b8_1, b11)
def f57v1.s2c (K : Nat) (rec : f57v1.Ty0 → Option (f57v1.Ty1)) (x : f57v1.Ty0) : Option (f57v1.Ty1) := f57v1.s2ct K rec x.1 x.2.1 x.2.2.1 x.2.2.2.1 x.2.2.2.2.1 x.2.2.2.2.2.1 x.2.2.2.2.2.2.1 x.2.2.2.2.2.2.2.1 x.2.2.2.2.2.2.2.2.1 x.2.2.2.2.2.2.2.2.2.1 x.2.2.2.2.2.2.2.2.2.2.1 x.2.2.2.2.2.2.2.2.2.2.2.1 x.2.2.2.2.2.2.2.2.2.2.2.2.1 x.2.2.2.2.2.2.2.2.2.2.2.2.2.1 x.2.2.2.2.2.2.2.2.2.2.2.2.2.2
noncomputable def f57v1.s2c.b : Code := (findLoop 2 f57v1.c).getD .skip
def f57v1.s2c.h : Hint := { lv := [0, 5, 8, 9, 10], co := [(5, 0, [])], mv := [3] }
def f57v1.s2c.ho : Hint := { lv := [0, 8, 9, 10] }
def f57v1.s2c.shp (x : f57v1.Ty0) : VS := ⟨[(0, .ptr 0 0), (5, .vw true 8 x.1 x.2.1 10), (8, .vw true 1 0 3 2), (9, .int .i64 3), (10, .int .i64 2)], [(0, ([.ptr 11 0, .ints .u8 64 x.2.2.1, .int .i64 x.2.2.2.1, .int .u64 x.2.2.2.2.1], 117, .norm)), (1, ([.vw true 4 0 x.2.2.2.2.2.1 5, .vw true 6 0 x.2.2.2.2.2.2.1 7, .vw true 8 0 x.2.2.2.2.2.2.2.1 9], 0, .ro)), (3, ([], 113, .dead)), (4, ([.ints .u8 x.2.2.2.2.2.2.2.2.1 x.2.2.2.2.2.2.2.2.2.1], 0, .ro)), (6, ([.ints .u8 x.2.2.2.2.2.2.2.2.2.2.1 x.2.2.2.2.2.2.2.2.2.2.2.1], 0, .ro)), (8, ([.ints .u8 x.2.2.2.2.2.2.2.2.2.2.2.2.1 x.2.2.2.2.2.2.2.2.2.2.2.2.2.1], 0, .ro)), (11, ([.ints .u32 8 x.2.2.2.2.2.2.2.2.2.2.2.2.2.2], 113, .norm))], 12⟩
def f57v1.s2c.inX : VS → Option (f57v1.Ty0)
  | ⟨[(0, .ptr 0 0), (5, .vw true 8 t5_0 t5_1 10), (8, .vw true 1 0 3 2), (9, .int .i64 3), (10, .int .i64 2)], [(0, ([.ptr 11 0, .ints .u8 64 b0_0, .int .i64 b0_1, .int .u64 b0_2], 117, .norm)), (1, ([.vw true 4 0 b1_0 5, .vw true 6 0 b1_1 7, .vw true 8 0 b1_2 9], 0, .ro)), (3, ([], 113, .dead)), (4, ([.ints .u8 b4_0 b4_1], 0, .ro)), (6, ([.ints .u8 b6_0 b6_1], 0, .ro)), (8, ([.ints .u8 b8_0 b8_1], 0, .ro)), (11, ([.ints .u32 8 b11], 113, .norm))], 12⟩ => some (t5_0, t5_1, b0_0, b0_1, b0_2, b1_0, b1_1, b1_2, b4_0, b4_1, b6_0, b6_1, b8_0, b8_1, b11)
  | _ => none
def f57v1.s2c.o0 (y : f57v1.Ty1) : VS := ⟨[(0, .ptr 0 0), (8, .vw true 1 0 3 2), (9, .int .i64 3), (10, .int .i64 2)], [(0, ([.ptr 10 0, .ints .u8 64 y.1, .int .i64 y.2.1, .int .u64 y.2.2.1], 117, .norm)), (1, ([.vw true 4 0 y.2.2.2.1 5, .vw true 6 0 y.2.2.2.2.1 7, .vw true 8 0 y.2.2.2.2.2.1 9], 0, .ro)), (3, ([], 113, .dead)), (4, ([.ints .u8 y.2.2.2.2.2.2.1 y.2.2.2.2.2.2.2.1], 0, .ro)), (6, ([.ints .u8 y.2.2.2.2.2.2.2.2.1 y.2.2.2.2.2.2.2.2.2.1], 0, .ro)), (8, ([.ints .u8 y.2.2.2.2.2.2.2.2.2.2.1 y.2.2.2.2.2.2.2.2.2.2.2.1], 0, .ro)), (10, ([.ints .u32 8 y.2.2.2.2.2.2.2.2.2.2.2.2], 113, .norm))], 11⟩
def f57v1.s2c.des : ∀ α : Type, (f57v1.Ty1) → (Ex → VS → Option α) → Option α := (des1 (.exit 2) f57v1.s2c.o0)
def f57v1.s2c.out : f57v1.Ty1 → Ex × VS := (fun y => (.exit 2, f57v1.s2c.o0 y))
theorem f57v1.s2c.desOK : ∀ α y (k : Ex → VS → Option α), f57v1.s2c.des α y k = k (f57v1.s2c.out y).1 (f57v1.s2c.out y).2 := (fun _ _ _ => rfl)
def f57v1.s2c.inY : Ex → VS → Option (f57v1.Ty1)
  | .exit 2, ⟨[(0, .ptr 0 0), (8, .vw true 1 0 3 2), (9, .int .i64 3), (10, .int .i64 2)], [(0, ([.ptr 10 0, .ints .u8 64 b0_0, .int .i64 b0_1, .int .u64 b0_2], 117, .norm)), (1, ([.vw true 4 0 b1_0 5, .vw true 6 0 b1_1 7, .vw true 8 0 b1_2 9], 0, .ro)), (3, ([], 113, .dead)), (4, ([.ints .u8 b4_0 b4_1], 0, .ro)), (6, ([.ints .u8 b6_0 b6_1], 0, .ro)), (8, ([.ints .u8 b8_0 b8_1], 0, .ro)), (10, ([.ints .u32 8 b10], 113, .norm))], 11⟩ => some (b0_0, b0_1, b0_2, b1_0, b1_1, b1_2, b4_0, b4_1, b6_0, b6_1, b8_0, b8_1, b10)
  | _, _ => none
def f57v1.lp (K : Nat) : Nat → Option (Hint × Summ) := tabLp [(2, f57v1.s2.h, summOr f57v1.s2.inX (summOf (iter (f57v1.s2 K) K) f57v1.s2.inX f57v1.s2.des) (summOr f57v1.s2b.inX (summOf (iter (f57v1.s2b K) K) f57v1.s2b.inX f57v1.s2b.des) (summOf (iter (f57v1.s2c K) K) f57v1.s2c.inX f57v1.s2c.des)))]
noncomputable def f57v1.tab (K : Nat) : List (Nat × Entry) := [(90, (f90.E K))]
theorem f57v1.tabOK (K : Nat) : SpecOK Try.prog (tabSp (f57v1.tab K)) := tab_ok ((tab_cons (f90.ok K) tab_nil))
theorem f57v1.s2.eq (K : Nat) (rec : f57v1.Ty0 → Option (f57v1.Ty1)) (x : f57v1.Ty0) : f57v1.s2 K rec x = roundL (getA tys) (tabSp (f57v1.tab K)) 76 10 (f57v1.lp K) 400 f57v1.s2.b f57v1.s2.h f57v1.s2.ho f57v1.s2.shp f57v1.s2.inX f57v1.s2.inY rec x := by kernel_rfl
theorem f57v1.s2.lok (K : Nat) : LoopsOK Try.prog 76 10 (f57v1.lp K) f57v1.s2.b := loops_ok (by
  have h : loopsIn (f57v1.lp K) f57v1.s2.b = [] := by kernel_rfl
  rw [h]; simp)
theorem f57v1.s2.ok (K : Nat) : SummOK Try.prog 76 10 (summOf (iter (f57v1.s2 K) K) f57v1.s2.inX f57v1.s2.des) f57v1.s2.b :=
  loop_ok mix tys_ok (f57v1.tabOK K) (h := f57v1.s2.h) (ho := f57v1.s2.ho) (shp := f57v1.s2.shp) (inX := f57v1.s2.inX) (des := f57v1.s2.des) (out := f57v1.s2.out) (inY := f57v1.s2.inY) (fuel := 400)
    (by intro st x h; unfold f57v1.s2.inX at h; split at h <;> simp at h; subst h; rfl)
    (by intro e st y h; unfold f57v1.s2.inY at h; split at h <;> simp at h <;> subst h <;> rfl)
    f57v1.s2.desOK (f57v1.s2.lok K) (f57v1.s2 K) (f57v1.s2.eq K) K
theorem f57v1.s2b.eq (K : Nat) (rec : f57v1.Ty0 → Option (f57v1.Ty1)) (x : f57v1.Ty0) : f57v1.s2b K rec x = roundL (getA tys) (tabSp (f57v1.tab K)) 76 10 (f57v1.lp K) 400 f57v1.s2b.b f57v1.s2b.h f57v1.s2b.ho f57v1.s2b.shp f57v1.s2b.inX f57v1.s2b.inY rec x := by kernel_rfl
theorem f57v1.s2b.lok (K : Nat) : LoopsOK Try.prog 76 10 (f57v1.lp K) f57v1.s2b.b := loops_ok (by
  have h : loopsIn (f57v1.lp K) f57v1.s2b.b = [] := by kernel_rfl
  rw [h]; simp)
theorem f57v1.s2b.ok (K : Nat) : SummOK Try.prog 76 10 (summOf (iter (f57v1.s2b K) K) f57v1.s2b.inX f57v1.s2b.des) f57v1.s2b.b :=
  loop_ok mix tys_ok (f57v1.tabOK K) (h := f57v1.s2b.h) (ho := f57v1.s2b.ho) (shp := f57v1.s2b.shp) (inX := f57v1.s2b.inX) (des := f57v1.s2b.des) (out := f57v1.s2b.out) (inY := f57v1.s2b.inY) (fuel := 400)
    (by intro st x h; unfold f57v1.s2b.inX at h; split at h <;> simp at h; subst h; rfl)
    (by intro e st y h; unfold f57v1.s2b.inY at h; split at h <;> simp at h <;> subst h <;> rfl)
    f57v1.s2b.desOK (f57v1.s2b.lok K) (f57v1.s2b K) (f57v1.s2b.eq K) K
theorem f57v1.s2c.eq (K : Nat) (rec : f57v1.Ty0 → Option (f57v1.Ty1)) (x : f57v1.Ty0) : f57v1.s2c K rec x = roundL (getA tys) (tabSp (f57v1.tab K)) 76 10 (f57v1.lp K) 400 f57v1.s2c.b f57v1.s2c.h f57v1.s2c.ho f57v1.s2c.shp f57v1.s2c.inX f57v1.s2c.inY rec x := by kernel_rfl
theorem f57v1.s2c.lok (K : Nat) : LoopsOK Try.prog 76 10 (f57v1.lp K) f57v1.s2c.b := loops_ok (by
  have h : loopsIn (f57v1.lp K) f57v1.s2c.b = [] := by kernel_rfl
  rw [h]; simp)
theorem f57v1.s2c.ok (K : Nat) : SummOK Try.prog 76 10 (summOf (iter (f57v1.s2c K) K) f57v1.s2c.inX f57v1.s2c.des) f57v1.s2c.b :=
  loop_ok mix tys_ok (f57v1.tabOK K) (h := f57v1.s2c.h) (ho := f57v1.s2c.ho) (shp := f57v1.s2c.shp) (inX := f57v1.s2c.inX) (des := f57v1.s2c.des) (out := f57v1.s2c.out) (inY := f57v1.s2c.inY) (fuel := 400)
    (by intro st x h; unfold f57v1.s2c.inX at h; split at h <;> simp at h; subst h; rfl)
    (by intro e st y h; unfold f57v1.s2c.inY at h; split at h <;> simp at h <;> subst h <;> rfl)
    f57v1.s2c.desOK (f57v1.s2c.lok K) (f57v1.s2c K) (f57v1.s2c.eq K) K
theorem f57v1.loops (K : Nat) : LoopsOK Try.prog 76 10 (f57v1.lp K) f57v1.c := loops_ok (by
  have h : loopsIn (f57v1.lp K) f57v1.c = [(2, f57v1.s2.b)] := by kernel_rfl
  rw [h]
  intro p hp
  simp only [List.mem_cons, List.not_mem_nil, or_false] at hp
  rcases hp with rfl
  · exact ⟨_, rfl, (summOr_ok (f57v1.s2.ok K) (summOr_ok (f57v1.s2b.ok K) (f57v1.s2c.ok K)))⟩)
def f57v1.T (K : Nat) (m0_0 : List Int) (m0_1 : Int) (m0_2 : Int) (m1_0 : Nat) (m1_1 : Nat) (m1_2 : Nat) (m3 : List Int) (m4_0 : Nat) (m4_1 : List Int) (m6_0 : Nat) (m6_1 : List Int) (m8_0 : Nat) (m8_1 : List Int) : Option (f57v1.Ty1) :=
  (iter (f57v1.s2 K) K (0, m1_0, m0_0, m0_1, (IntKind.wrap .u64 (m0_2 + (IntKind.wrap .u64 ((m1_0 : Nat) : Int)))), m1_0, m1_1, m1_2, m4_0, m4_1, m6_0, m6_1, m8_0, m8_1, m3)).bind fun y15 =>
  let v16 := y15.2.2.2.2.1
  (iter (f57v1.s2b K) K (0, v16, y15.1, y15.2.1, (IntKind.wrap .u64 (y15.2.2.1 + (IntKind.wrap .u64 ((v16 : Nat) : Int)))), y15.2.2.2.1, y15.2.2.2.2.1, y15.2.2.2.2.2.1, y15.2.2.2.2.2.2.1, y15.2.2.2.2.2.2.2.1, y15.2.2.2.2.2.2.2.2.1, y15.2.2.2.2.2.2.2.2.2.1, y15.2.2.2.2.2.2.2.2.2.2.1, y15.2.2.2.2.2.2.2.2.2.2.2.1, y15.2.2.2.2.2.2.2.2.2.2.2.2)).bind fun y31 =>
  let v32 := y31.2.2.2.2.2.1
  (iter (f57v1.s2c K) K (0, v32, y31.1, y31.2.1, (IntKind.wrap .u64 (y31.2.2.1 + (IntKind.wrap .u64 ((v32 : Nat) : Int)))), y31.2.2.2.1, y31.2.2.2.2.1, y31.2.2.2.2.2.1, y31.2.2.2.2.2.2.1, y31.2.2.2.2.2.2.2.1, y31.2.2.2.2.2.2.2.2.1, y31.2.2.2.2.2.2.2.2.2.1, y31.2.2.2.2.2.2.2.2.2.2.1, y31.2.2.2.2.2.2.2.2.2.2.2.1, y31.2.2.2.2.2.2.2.2.2.2.2.2)).bind fun y47 =>
  some (y47.1, y47.2.1, y47.2.2.1, y47.2.2.2.1, y47.2.2.2.2.1, y47.2.2.2.2.2.1, y47.2.2.2.2.2.2.1, y47.2.2.2.2.2.2.2.1, y47.2.2.2.2.2.2.2.2.1, y47.2.2.2.2.2.2.2.2.2.1, y47.2.2.2.2.2.2.2.2.2.2.1, y47.2.2.2.2.2.2.2.2.2.2.2.1, y47.2.2.2.2.2.2.2.2.2.2.2.2)
def f57v1.F (K : Nat) (x : f57v1.Ty2) : Option (f57v1.Ty1) := f57v1.T K x.1 x.2.1 x.2.2.1 x.2.2.2.1 x.2.2.2.2.1 x.2.2.2.2.2.1 x.2.2.2.2.2.2.1 x.2.2.2.2.2.2.2.1 x.2.2.2.2.2.2.2.2.1 x.2.2.2.2.2.2.2.2.2.1 x.2.2.2.2.2.2.2.2.2.2.1 x.2.2.2.2.2.2.2.2.2.2.2.1 x.2.2.2.2.2.2.2.2.2.2.2.2
def f57v1.av (_x : f57v1.Ty2) : List VV := [.ptr 0 0, .vw true 1 0 3 2]
def f57v1.bl (x : f57v1.Ty2) : List (Nat × Blk) := [(0, ([.ptr 3 0, .ints .u8 64 x.1, .int .i64 x.2.1, .int .u64 x.2.2.1], 117, .norm)), (1, ([.vw true 4 0 x.2.2.2.1 5, .vw true 6 0 x.2.2.2.2.1 7, .vw true 8 0 x.2.2.2.2.2.1 9], 0, .ro)), (3, ([.ints .u32 8 x.2.2.2.2.2.2.1], 113, .norm)), (4, ([.ints .u8 x.2.2.2.2.2.2.2.1 x.2.2.2.2.2.2.2.2.1], 0, .ro)), (6, ([.ints .u8 x.2.2.2.2.2.2.2.2.2.1 x.2.2.2.2.2.2.2.2.2.2.1], 0, .ro)), (8, ([.ints .u8 x.2.2.2.2.2.2.2.2.2.2.2.1 x.2.2.2.2.2.2.2.2.2.2.2.2], 0, .ro))]
def f57v1.inA : VS → Option (f57v1.Ty2)
  | ⟨[(0, .ptr 0 0), (1, .vw true 1 0 3 2)], [(0, ([.ptr 3 0, .ints .u8 64 m0_0, .int .i64 m0_1, .int .u64 m0_2], 117, .norm)), (1, ([.vw true 4 0 m1_0 5, .vw true 6 0 m1_1 7, .vw true 8 0 m1_2 9], 0, .ro)), (3, ([.ints .u32 8 m3], 113, .norm)), (4, ([.ints .u8 m4_0 m4_1], 0, .ro)), (6, ([.ints .u8 m6_0 m6_1], 0, .ro)), (8, ([.ints .u8 m8_0 m8_1], 0, .ro))], 10⟩ => some (m0_0, m0_1, m0_2, m1_0, m1_1, m1_2, m3, m4_0, m4_1, m6_0, m6_1, m8_0, m8_1)
  | _ => none
def f57v1.o0 (y : f57v1.Ty1) : VS := ⟨[(0, .tup [])], [(0, ([.ptr 10 0, .ints .u8 64 y.1, .int .i64 y.2.1, .int .u64 y.2.2.1], 117, .norm)), (1, ([.vw true 4 0 y.2.2.2.1 5, .vw true 6 0 y.2.2.2.2.1 7, .vw true 8 0 y.2.2.2.2.2.1 9], 0, .ro)), (3, ([], 113, .dead)), (4, ([.ints .u8 y.2.2.2.2.2.2.1 y.2.2.2.2.2.2.2.1], 0, .ro)), (6, ([.ints .u8 y.2.2.2.2.2.2.2.2.1 y.2.2.2.2.2.2.2.2.2.1], 0, .ro)), (8, ([.ints .u8 y.2.2.2.2.2.2.2.2.2.2.1 y.2.2.2.2.2.2.2.2.2.2.2.1], 0, .ro)), (10, ([.ints .u32 8 y.2.2.2.2.2.2.2.2.2.2.2.2], 113, .norm))], 11⟩
def f57v1.des : ∀ α : Type, (f57v1.Ty1) → (VS → Option α) → Option α := (dv1 f57v1.o0)
def f57v1.out : f57v1.Ty1 → VS := f57v1.o0
def f57v1.inR : VS → Option (f57v1.Ty1)
  | ⟨[(0, .tup [])], [(0, ([.ptr 10 0, .ints .u8 64 z0_0, .int .i64 z0_1, .int .u64 z0_2], 117, .norm)), (1, ([.vw true 4 0 z1_0 5, .vw true 6 0 z1_1 7, .vw true 8 0 z1_2 9], 0, .ro)), (3, ([], 113, .dead)), (4, ([.ints .u8 z4_0 z4_1], 0, .ro)), (6, ([.ints .u8 z6_0 z6_1], 0, .ro)), (8, ([.ints .u8 z8_0 z8_1], 0, .ro)), (10, ([.ints .u32 8 z10], 113, .norm))], 11⟩ => some (z0_0, z0_1, z0_2, z1_0, z1_1, z1_2, z4_0, z4_1, z6_0, z6_1, z8_0, z8_1, z10)
  | _ => none
noncomputable def f57v1.E (K : Nat) : Entry := genE 10 f57v1.inA (f57v1.F K) f57v1.des
theorem f57v1.eq (K : Nat) (x : f57v1.Ty2) : f57v1.F K x = xrun (getA tys) (tabSp (f57v1.tab K)) Try.f57.ntmps 10 (f57v1.lp K) 400 f57v1.c ⟨initL 0 (f57v1.av x), f57v1.bl x, 10⟩ (contF (getA tys) 10 Try.f57.results.toList f57v1.inR) := by kernel_rfl
theorem f57v1.ok (K : Nat) : EntryOK Try.prog 57 (f57v1.E K) :=
  gen_ok mix tys_ok (f57v1.tabOK K) Try.func57 (by kernel_rfl : Try.f57.body = some f57v1.c) (by kernel_rfl) (f57v1.loops K) (av := f57v1.av) (bl := f57v1.bl) (out := f57v1.out) (fuel := 400)
    (by intro s x h; unfold f57v1.inA at h; split at h <;> simp at h; subst h; rfl) (fun _ => Nat.le_of_ble_eq_true rfl)
    (by intro s y h; unfold f57v1.inR at h; split at h <;> simp at h <;> subst h <;> rfl) (fun _ _ _ => rfl) (f57v1.eq K)
end Go.Proofs

namespace Go.Proofs
open Go.VM
def Sh.init : List Int := [1779033703, 3144134277, 1013904242, 2773480762, 1359893119, 2600822924, 528734635, 1541459225]
def Sh.chain (m : List Int) : Nat → List Int
  | 0 => Sh.init
  | n + 1 => Sh.comp (Sh.chain m n) ((m.drop (64 * n)).take 64)
theorem Sh.chain_append (m q : List Int) : ∀ n, 64 * n ≤ m.length → Sh.chain (m ++ q) n = Sh.chain m n
  | 0, _ => rfl
  | n + 1, h => by
    rw [Sh.chain, Sh.chain, Sh.chain_append m q n (by omega), List.drop_append_of_le_length (by omega), List.take_append_of_le_length (by simp; omega)]
structure Sh.Rep (m : List Int) (b : List Int) (h : Int) (s : List Int) : Prop where
  len : b.length = 64
  oct : octets b
  held : h = ((m.length % 64 : Nat) : Int)
  rest : b.take (m.length % 64) = m.drop (64 * (m.length / 64))
  st : s = Sh.chain m (m.length / 64)
theorem padT_take (l : List Int) (n : Nat) (h : n ≤ l.length) : padT l n = l.take n := by
  have := subI_cut l 0 n (by omega)
  rw [List.drop_zero] at this
  rw [← this]
  simp [padT, subI]
theorem Sh.Rep.block {m b s : List Int} {h : Int} (R : Sh.Rep m b h s) (q L : List Int) (k : Nat) (hk : q.length = k) (hL : L.take k = q) (hle : k ≤ L.length) (hr : m.length % 64 + k ≤ 64) :
    spl b (m.length % 64) k L = m.drop (64 * (m.length / 64)) ++ q ++ b.drop (m.length % 64 + k) := by
  rw [spl, padT_take b _ (by have := R.len; omega), padT_take L k hle, hL, R.rest]
theorem Sh.Rep.some {m b s : List Int} {h : Int} (R : Sh.Rep m b h s) (q L : List Int) (k : Nat) (hk : q.length = k) (ho : octets L) (hL : L.take k = q) (hle : k ≤ L.length) (hr : m.length % 64 + k < 64) :
    Sh.Rep (m ++ q) (spl b (m.length % 64) k L) (h + k) s := by
  have e := R.block q L k hk hL hle (by omega)
  have l1 : (m ++ q).length / 64 = m.length / 64 := by rw [List.length_append]; omega
  have l2 : (m ++ q).length % 64 = m.length % 64 + k := by rw [List.length_append]; omega
  have d : (m.drop (64 * (m.length / 64))).length = m.length % 64 := by rw [List.length_drop]; omega
  refine ⟨?_, octets_spl R.oct ho _ _, ?_, ?_, ?_⟩
  · have dd : (b.drop (m.length % 64 + k)).length = 64 - (m.length % 64 + k) := by rw [List.length_drop, R.len]
    rw [e, List.length_append, List.length_append, dd, d, hk]; omega
  · rw [R.held, l2]; omega
  · rw [l1, l2, e, List.take_append_of_le_length (by rw [List.length_append, d]; omega), List.take_of_length_le (by rw [List.length_append, d]; omega), List.drop_append_of_le_length (by omega)]
  · rw [l1, Sh.chain_append _ _ _ (by omega)]; exact R.st
theorem Sh.Rep.full {m b s : List Int} {h : Int} (R : Sh.Rep m b h s) (q L : List Int) (k : Nat) (hk : q.length = k) (ho : octets L) (hL : L.take k = q) (hle : k ≤ L.length) (hr : m.length % 64 + k = 64) :
    Sh.Rep (m ++ q) (spl b (m.length % 64) k L) 0 (Sh.comp s (spl b (m.length % 64) k L)) := by
  have e := R.block q L k hk hL hle (by omega)
  have l1 : (m ++ q).length / 64 = m.length / 64 + 1 := by rw [List.length_append]; omega
  have l2 : (m ++ q).length % 64 = 0 := by rw [List.length_append]; omega
  have d : (m.drop (64 * (m.length / 64))).length = m.length % 64 := by rw [List.length_drop]; omega
  have eb : b.drop (m.length % 64 + k) = [] := List.drop_of_length_le (by have := R.len; omega)
  rw [eb, List.append_nil] at e
  refine ⟨?_, octets_spl R.oct ho _ _, ?_, ?_, ?_⟩
  · rw [e, List.length_append, d]; omega
  · rw [l2]; rfl
  · rw [l1, l2, List.take_zero, List.drop_of_length_le (by rw [List.length_append]; omega)]
  · rw [l1, Sh.chain, Sh.chain_append _ _ _ (by omega), ← R.st, List.drop_append_of_le_length (by omega), e, List.take_of_length_le (by rw [List.length_append, d]; omega)]
theorem sub_take (p : List Int) (off rem k : Nat) (h : off + rem = p.length) (hk : k ≤ rem) : p.take (off + k) = p.take off ++ (subI p off rem).take k := by
  rw [subI_cut p off rem (by omega), List.take_take, Nat.min_eq_left hk, List.take_add]
theorem tot_add (m n : Nat) : IntKind.wrap .u64 (((m % 18446744073709551616 : Nat) : Int) + (IntKind.wrap .u64 ((n : Nat) : Int))) = (((m + n) % 18446744073709551616 : Nat) : Int) := by
  rw [wrap_nat, show ∀ a b : Nat, ((a : Int) + (b : Int)) = ((a + b : Nat) : Int) from fun a b => rfl, wrap_nat]
  congr 1
  omega
theorem Sh.take_all {T O : Type} {stp : (T → Option O) → T → Option O} (p : List Int) (pack : Nat → Nat → List Int → Int → List Int → T) (fin : List Int → Int → List Int → O)
    (hend : ∀ rec off b h s, stp rec (pack off 0 b h s) = some (fin b h s))
    (hgo : ∀ rec off rem b r k s, off + rem = p.length → 0 < rem → r < 64 → min rem (64 - r) = k → octets (spl b r k (subI p off rem)) → stp rec (pack off rem b (r : Int) s) = if r + k = 64 then rec (pack (off + k) (rem - k) (spl b r k (subI p off rem)) 0 (Sh.comp s (spl b r k (subI p off rem)))) else rec (pack (off + k) (rem - k) (spl b r k (subI p off rem)) ((r + k : Nat) : Int) s))
    (K : Nat) (m : List Int) (ho : octets p) (b s : List Int) (h : Int) (R : Sh.Rep m b h s) (hK2 : 2 * ((m.length % 64 + p.length) / 64) + 1 < K) :
    ∃ b' h' s', iter stp K (pack 0 p.length b h s) = some (fin b' h' s') ∧ Sh.Rep (m ++ p) b' h' s' := by
  refine Exists.elim (iter_inv (stp := stp)
    (fun n x => ∃ off rem b h s, x = pack off rem b h s ∧ off + rem = p.length ∧ Sh.Rep (m ++ p.take off) b h s ∧ 2 * (((m ++ p.take off).length % 64 + rem) / 64) + (if rem = 0 then 0 else 1) = n)
    (fun y => ∃ b' h' s', y = fin b' h' s' ∧ Sh.Rep (m ++ p) b' h' s') ?_ (2 * ((m.length % 64 + p.length) / 64) + (if p.length = 0 then 0 else 1)) (pack 0 p.length b h s)
    ⟨0, p.length, b, h, s, rfl, by omega, by rw [List.take_zero, List.append_nil]; exact R, by rw [List.take_zero, List.append_nil]⟩ K (by split <;> omega)) ?_
  · intro n x hx
    obtain ⟨off, rem, b, h, s, rfl, hsum, R, hm⟩ := hx
    rcases Nat.eq_zero_or_pos rem with h0 | h0
    · subst h0
      refine Or.inl ⟨_, ⟨b, h, s, rfl, ?_⟩, fun rec => hend rec off b h s⟩
      rw [List.take_of_length_le (by omega)] at R; exact R
    · refine Or.inr ?_
      generalize hM : m ++ p.take off = M at R hm
      have hd := R.held
      have hr : M.length % 64 < 64 := Nat.mod_lt _ (by decide)
      generalize hk : min rem (64 - M.length % 64) = k
      have hk1 : k ≤ rem := by omega
      have es : M ++ (subI p off rem).take k = m ++ p.take (off + k) := by rw [sub_take p off rem k hsum hk1, ← List.append_assoc, hM]
      have hq : ((subI p off rem).take k).length = k := by rw [List.length_take, subI_length]; omega
      have hob := octets_spl R.oct (octets_sub ho off rem) (M.length % 64) k
      have go := fun rec => hgo rec off rem b (M.length % 64) k s hsum h0 hr hk hob
      rcases Nat.lt_or_ge (M.length % 64 + k) 64 with hc | hc
      · have R' := R.some _ (subI p off rem) k hq (octets_sub ho off rem) rfl (by rw [subI_length]; exact hk1) hc
        rw [es, hd, show ((M.length % 64 : Nat) : Int) + (k : Int) = ((M.length % 64 + k : Nat) : Int) from by omega] at R'
        refine ⟨_, _, ?_, ⟨off + k, rem - k, _, _, s, rfl, by omega, R', rfl⟩, fun rec => by rw [hd, go rec, if_neg (by omega)]⟩
        rw [← es, List.length_append, hq, ← hm, if_neg (show rem ≠ 0 by omega), if_pos (show rem - k = 0 by omega)]
        have : (M.length + k) % 64 + (rem - k) = M.length % 64 + rem := by omega
        rw [this]; omega
      · have hc' : M.length % 64 + k = 64 := by omega
        have R' := R.full _ (subI p off rem) k hq (octets_sub ho off rem) rfl (by rw [subI_length]; exact hk1) hc'
        rw [es] at R'
        refine ⟨_, _, ?_, ⟨off + k, rem - k, _, _, _, rfl, by omega, R', rfl⟩, fun rec => by rw [hd, go rec, if_pos hc']⟩
        rw [← es, List.length_append, hq, ← hm, if_neg (show rem ≠ 0 by omega)]
        split <;> omega
  · rintro y ⟨⟨b', h', s', rfl, hR⟩, hy⟩
    exact ⟨b', h', s', hy, hR⟩
theorem f57.s2_ok (K : Nat) (m : List Int) (mn : Int) (k0 : Nat) (n0 : Nat) (l0 : List Int) (hl : l0.length = n0) (ho : octets l0) (hn : n0 ≤ 1000000000000) (hK : 64 < K) (b s : List Int) (h : Int) (R : Sh.Rep m b h s) (hK2 : 2 * ((m.length % 64 + n0) / 64) + 1 < K) :
    ∃ b' h' s', iter (f57.s2 K) K (0, n0, b, h, mn, k0, n0, l0, s) = some (b', h', mn, k0, n0, l0, s') ∧ Sh.Rep (m ++ l0) b' h' s' := by
  subst hl
  refine Sh.take_all l0 (fun off rem b h s => (off, rem, b, h, mn, k0, l0.length, l0, s)) (fun b h s => (b, h, mn, k0, l0.length, l0, s)) (fun rec off b h s => ?_) (fun rec off rem b r k s hsum h0 hr hk hob => ?_) K m ho b s h R hK2
  · simp only [f57.s2, f57.s2t]
    rw [decide_eq_false (show ¬ (((0 : Nat) : Int) > 0) by omega), cond_f]
  · have e6 : (bif Nat.beq 64 r then 0 else r) = r := by rw [show Nat.beq 64 r = false from (by rw [← Bool.not_eq_true, Nat.beq_eq]; omega), cond_f]
    have e9 : Nat.min rem (64 - r) = k := hk
    simp only [f57.s2, f57.s2t]
    rw [decide_eq_true (show (((rem : Nat) : Int) > 0) by omega), cond_t, decide_eq_true (show (0 : Int) ≤ (r : Int) ∧ (r : Int) ≤ 64 by omega), cond_t]
    simp only [Int.toNat_natCast, e6, e9]
    rw [ble_true (show off + rem ≤ l0.length by omega), ble_true (show r + (64 - r) ≤ 64 by omega), show Nat.beq rem rem = true from Nat.beq_refl rem, Bool.and_self, Bool.and_self, Bool.and_self, cond_t, decide_eq_true (show (0 : Int) ≤ (k : Int) ∧ (k : Int) ≤ (rem : Int) by omega), cond_t,
      show IntKind.wrap .i64 ((r : Int) + (k : Int)) = ((r + k : Nat) : Int) by rw [wrap_i _ (by omega) (by omega)]; omega]
    by_cases hc : r + k = 64
    · rw [if_pos hc, show (((r + k : Nat) : Int) == 64) = true from beq_iff_eq.2 (by omega), cond_t, f90.spec K s _ _ mn hob hK, bind_s]
    · rw [if_neg hc, show (((r + k : Nat) : Int) == 64) = false from beq_eq_false_iff_ne.2 (by omega), cond_f]
theorem f57v1.s2_ok (K : Nat) (m : List Int) (mn : Int) (k0 : Nat) (k1 : Nat) (k2 : Nat) (n0 : Nat) (l0 : List Int) (n1 : Nat) (l1 : List Int) (n2 : Nat) (l2 : List Int) (hl : l0.length = n0) (ho : octets l0) (hn : n0 ≤ 1000000000000) (hK : 64 < K) (b s : List Int) (h : Int) (R : Sh.Rep m b h s) (hK2 : 2 * ((m.length % 64 + n0) / 64) + 1 < K) :
    ∃ b' h' s', iter (f57v1.s2 K) K (0, n0, b, h, mn, k0, k1, k2, n0, l0, n1, l1, n2, l2, s) = some (b', h', mn, k0, k1, k2, n0, l0, n1, l1, n2, l2, s') ∧ Sh.Rep (m ++ l0) b' h' s' := by
  subst hl
  refine Sh.take_all l0 (fun off rem b h s => (off, rem, b, h, mn, k0, k1, k2, l0.length, l0, n1, l1, n2, l2, s)) (fun b h s => (b, h, mn, k0, k1, k2, l0.length, l0, n1, l1, n2, l2, s)) (fun rec off b h s => ?_) (fun rec off rem b r k s hsum h0 hr hk hob => ?_) K m ho b s h R hK2
  · simp only [f57v1.s2, f57v1.s2t]
    rw [decide_eq_false (show ¬ (((0 : Nat) : Int) > 0) by omega), cond_f]
  · have e6 : (bif Nat.beq 64 r then 0 else r) = r := by rw [show Nat.beq 64 r = false from (by rw [← Bool.not_eq_true, Nat.beq_eq]; omega), cond_f]
    have e9 : Nat.min rem (64 - r) = k := hk
    simp only [f57v1.s2, f57v1.s2t]
    rw [decide_eq_true (show (((rem : Nat) : Int) > 0) by omega), cond_t, decide_eq_true (show (0 : Int) ≤ (r : Int) ∧ (r : Int) ≤ 64 by omega), cond_t]
    simp only [Int.toNat_natCast, e6, e9]
    rw [ble_true (show off + rem ≤ l0.length by omega), ble_true (show r + (64 - r) ≤ 64 by omega), show Nat.beq rem rem = true from Nat.beq_refl rem, Bool.and_self, Bool.and_self, Bool.and_self, cond_t, decide_eq_true (show (0 : Int) ≤ (k : Int) ∧ (k : Int) ≤ (rem : Int) by omega), cond_t,
      show IntKind.wrap .i64 ((r : Int) + (k : Int)) = ((r + k : Nat) : Int) by rw [wrap_i _ (by omega) (by omega)]; omega]
    by_cases hc : r + k = 64
    · rw [if_pos hc, show (((r + k : Nat) : Int) == 64) = true from beq_iff_eq.2 (by omega), cond_t, f90.spec K s _ _ mn hob hK, bind_s]
    · rw [if_neg hc, show (((r + k : Nat) : Int) == 64) = false from beq_eq_false_iff_ne.2 (by omega), cond_f]
theorem f57v1.s2b_ok (K : Nat) (m : List Int) (mn : Int) (k0 : Nat) (k1 : Nat) (k2 : Nat) (n0 : Nat) (l0 : List Int) (n1 : Nat) (l1 : List Int) (n2 : Nat) (l2 : List Int) (hl : l1.length = n1) (ho : octets l1) (hn : n1 ≤ 1000000000000) (hK : 64 < K) (b s : List Int) (h : Int) (R : Sh.Rep m b h s) (hK2 : 2 * ((m.length % 64 + n1) / 64) + 1 < K) :
    ∃ b' h' s', iter (f57v1.s2b K) K (0, n1, b, h, mn, k0, k1, k2, n0, l0, n1, l1, n2, l2, s) = some (b', h', mn, k0, k1, k2, n0, l0, n1, l1, n2, l2, s') ∧ Sh.Rep (m ++ l1) b' h' s' := by
  subst hl
  refine Sh.take_all l1 (fun off rem b h s => (off, rem, b, h, mn, k0, k1, k2, n0, l0, l1.length, l1, n2, l2, s)) (fun b h s => (b, h, mn, k0, k1, k2, n0, l0, l1.length, l1, n2, l2, s)) (fun rec off b h s => ?_) (fun rec off rem b r k s hsum h0 hr hk hob => ?_) K m ho b s h R hK2
  · simp only [f57v1.s2b, f57v1.s2bt]
    rw [decide_eq_false (show ¬ (((0 : Nat) : Int) > 0) by omega), cond_f]
  · have e6 : (bif Nat.beq 64 r then 0 else r) = r := by rw [show Nat.beq 64 r = false from (by rw [← Bool.not_eq_true, Nat.beq_eq]; omega), cond_f]
    have e9 : Nat.min rem (64 - r) = k := hk
    simp only [f57v1.s2b, f57v1.s2bt]
    rw [decide_eq_true (show (((rem : Nat) : Int) > 0) by omega), cond_t, decide_eq_true (show (0 : Int) ≤ (r : Int) ∧ (r : Int) ≤ 64 by omega), cond_t]
    simp only [Int.toNat_natCast, e6, e9]
    rw [ble_true (show off + rem ≤ l1.length by omega), ble_true (show r + (64 - r) ≤ 64 by omega), show Nat.beq rem rem = true from Nat.beq_refl rem, Bool.and_self, Bool.and_self, Bool.and_self, cond_t, decide_eq_true (show (0 : Int) ≤ (k : Int) ∧ (k : Int) ≤ (rem : Int) by omega), cond_t,
      show IntKind.wrap .i64 ((r : Int) + (k : Int)) = ((r + k : Nat) : Int) by rw [wrap_i _ (by omega) (by omega)]; omega]
    by_cases hc : r + k = 64
    · rw [if_pos hc, show (((r + k : Nat) : Int) == 64) = true from beq_iff_eq.2 (by omega), cond_t, f90.spec K s _ _ mn hob hK, bind_s]
    · rw [if_neg hc, show (((r + k : Nat) : Int) == 64) = false from beq_eq_false_iff_ne.2 (by omega), cond_f]
theorem f57v1.s2c_ok (K : Nat) (m : List Int) (mn : Int) (k0 : Nat) (k1 : Nat) (k2 : Nat) (n0 : Nat) (l0 : List Int) (n1 : Nat) (l1 : List Int) (n2 : Nat) (l2 : List Int) (hl : l2.length = n2) (ho : octets l2) (hn : n2 ≤ 1000000000000) (hK : 64 < K) (b s : List Int) (h : Int) (R : Sh.Rep m b h s) (hK2 : 2 * ((m.length % 64 + n2) / 64) + 1 < K) :
    ∃ b' h' s', iter (f57v1.s2c K) K (0, n2, b, h, mn, k0, k1, k2, n0, l0, n1, l1, n2, l2, s) = some (b', h', mn, k0, k1, k2, n0, l0, n1, l1, n2, l2, s') ∧ Sh.Rep (m ++ l2) b' h' s' := by
  subst hl
  refine Sh.take_all l2 (fun off rem b h s => (off, rem, b, h, mn, k0, k1, k2, n0, l0, n1, l1, l2.length, l2, s)) (fun b h s => (b, h, mn, k0, k1, k2, n0, l0, n1, l1, l2.length, l2, s)) (fun rec off b h s => ?_) (fun rec off rem b r k s hsum h0 hr hk hob => ?_) K m ho b s h R hK2
  · simp only [f57v1.s2c, f57v1.s2ct]
    rw [decide_eq_false (show ¬ (((0 : Nat) : Int) > 0) by omega), cond_f]
  · have e6 : (bif Nat.beq 64 r then 0 else r) = r := by rw [show Nat.beq 64 r = false from (by rw [← Bool.not_eq_true, Nat.beq_eq]; omega), cond_f]
    have e9 : Nat.min rem (64 - r) = k := hk
    simp only [f57v1.s2c, f57v1.s2ct]
    rw [decide_eq_true (show (((rem : Nat) : Int) > 0) by omega), cond_t, decide_eq_true (show (0 : Int) ≤ (r : Int) ∧ (r : Int) ≤ 64 by omega), cond_t]
    simp only [Int.toNat_natCast, e6, e9]
    rw [ble_true (show off + rem ≤ l2.length by omega), ble_true (show r + (64 - r) ≤ 64 by omega), show Nat.beq rem rem = true from Nat.beq_refl rem, Bool.and_self, Bool.and_self, Bool.and_self, cond_t, decide_eq_true (show (0 : Int) ≤ (k : Int) ∧ (k : Int) ≤ (rem : Int) by omega), cond_t,
      show IntKind.wrap .i64 ((r : Int) + (k : Int)) = ((r + k : Nat) : Int) by rw [wrap_i _ (by omega) (by omega)]; omega]
    by_cases hc : r + k = 64
    · rw [if_pos hc, show (((r + k : Nat) : Int) == 64) = true from beq_iff_eq.2 (by omega), cond_t, f90.spec K s _ _ mn hob hK, bind_s]
    · rw [if_neg hc, show (((r + k : Nat) : Int) == 64) = false from beq_eq_false_iff_ne.2 (by omega), cond_f]
theorem f57.spec (K : Nat) (m : List Int) (n0 : Nat) (l0 : List Int) (e0 : l0.length = n0) (o0 : octets l0) (z0 : n0 ≤ 1000000000000) (b s : List Int) (h : Int) (R : Sh.Rep m b h s) (hK : 64 + n0 < K) :
    ∃ b' h' s', f57.F K (b, h, ((m.length % 18446744073709551616 : Nat) : Int), n0, s, n0, l0) = some (b', h', (((m ++ l0).length % 18446744073709551616 : Nat) : Int), n0, n0, l0, s') ∧ Sh.Rep (m ++ l0) b' h' s' := by
  simp only [f57.F, f57.T]
  rw [tot_add]
  obtain ⟨b0, h0, s0, i0, R0⟩ := f57.s2_ok K (m) ((((m).length + n0) % 18446744073709551616 : Nat) : Int) n0 n0 l0 e0 o0 z0 (by omega) _ _ _ R (by omega)
  rw [i0, bind_s]
  simp only []
  rw [show (m).length + n0 = (m ++ l0).length from by simp only [List.length_append]; omega]
  exact ⟨b0, h0, s0, rfl, R0⟩
theorem f57v1.spec (K : Nat) (m : List Int) (n0 : Nat) (l0 : List Int) (n1 : Nat) (l1 : List Int) (n2 : Nat) (l2 : List Int) (e0 : l0.length = n0) (o0 : octets l0) (z0 : n0 ≤ 1000000000000) (e1 : l1.length = n1) (o1 : octets l1) (z1 : n1 ≤ 1000000000000) (e2 : l2.length = n2) (o2 : octets l2) (z2 : n2 ≤ 1000000000000) (b s : List Int) (h : Int) (R : Sh.Rep m b h s) (hK : 64 + n0 + n1 + n2 < K) :
    ∃ b' h' s', f57v1.F K (b, h, ((m.length % 18446744073709551616 : Nat) : Int), n0, n1, n2, s, n0, l0, n1, l1, n2, l2) = some (b', h', (((m ++ l0 ++ l1 ++ l2).length % 18446744073709551616 : Nat) : Int), n0, n1, n2, n0, l0, n1, l1, n2, l2, s') ∧ Sh.Rep (m ++ l0 ++ l1 ++ l2) b' h' s' := by
  simp only [f57v1.F, f57v1.T]
  rw [tot_add]
  obtain ⟨b0, h0, s0, i0, R0⟩ := f57v1.s2_ok K (m) ((((m).length + n0) % 18446744073709551616 : Nat) : Int) n0 n1 n2 n0 l0 n1 l1 n2 l2 e0 o0 z0 (by omega) _ _ _ R (by omega)
  rw [i0, bind_s]
  simp only []
  rw [show (m).length + n0 = (m ++ l0).length from by simp only [List.length_append]; omega]
  rw [tot_add]
  obtain ⟨b1, h1, s1, i1, R1⟩ := f57v1.s2b_ok K (m ++ l0) ((((m ++ l0).length + n1) % 18446744073709551616 : Nat) : Int) n0 n1 n2 n0 l0 n1 l1 n2 l2 e1 o1 z1 (by omega) _ _ _ R0 (by omega)
  rw [i1, bind_s]
  simp only []
  rw [show (m ++ l0).length + n1 = (m ++ l0 ++ l1).length from by simp only [List.length_append]; omega]
  rw [tot_add]
  obtain ⟨b2, h2, s2, i2, R2⟩ := f57v1.s2c_ok K (m ++ l0 ++ l1) ((((m ++ l0 ++ l1).length + n2) % 18446744073709551616 : Nat) : Int) n0 n1 n2 n0 l0 n1 l1 n2 l2 e2 o2 z2 (by omega) _ _ _ R1 (by omega)
  rw [i2, bind_s]
  simp only []
  rw [show (m ++ l0 ++ l1).length + n2 = (m ++ l0 ++ l1 ++ l2).length from by simp only [List.length_append]; omega]
  exact ⟨b2, h2, s2, rfl, R2⟩
end Go.Proofs

namespace Go.Proofs
open Go.VM
abbrev f51.Ty0 := List Int × List Int × Int × Int
abbrev f51.Ty1 := List Int × Int × Int × List Int
def f51.T (K : Nat) (m0_0 : List Int) (m0_1 : Int) (m0_2 : Int) (m1 : List Int) : Option (f51.Ty0) :=
  let v2 := Int.tmod (IntKind.wrap .i64 (119 - m0_1)) 64
  bif lenOK v2 v2 1 then
    let v3 := Int.toNat v2
    (f59.F K (0, (IntKind.wrap .u64 (8 * m0_2)), 8, 0, [])).bind fun y7 =>
    bif ((Nat.ble (0 + v3) (Int.toNat v2) && (Nat.ble v3 (Int.toNat v2))) && ((Nat.ble (0 + y7.1) y7.2.2.2.2.1 && (Nat.ble y7.1 y7.2.1)) && true)) then
      (f57v1.F K (m0_0, m0_1, m0_2, 1, v3, y7.1, m1, 1, [128], v3, (subI [] 0 v3), y7.1, (subI y7.2.2.2.2.2 0 y7.1))).bind fun y8 =>
      (f59.F K (0, (IntKind.wrap .u64 (List.getD y8.2.2.2.2.2.2.2.2.2.2.2.2 0 0)), 4, 0, [])).bind fun y11 =>
      bif ((Nat.ble (0 + y11.1) y11.2.2.2.2.1 && (Nat.ble y11.1 y11.2.1)) && true) then
        (f59.F K (y11.1, (IntKind.wrap .u64 (List.getD y8.2.2.2.2.2.2.2.2.2.2.2.2 1 0)), 4, y11.1, (subI y11.2.2.2.2.2 0 y11.1))).bind fun y14 =>
        bif ((Nat.ble (0 + y14.1) y14.2.2.2.2.1 && (Nat.ble y14.1 y14.2.1)) && true) then
          (f59.F K (y14.1, (IntKind.wrap .u64 (List.getD y8.2.2.2.2.2.2.2.2.2.2.2.2 2 0)), 4, y14.1, (subI y14.2.2.2.2.2 0 y14.1))).bind fun y17 =>
          bif ((Nat.ble (0 + y17.1) y17.2.2.2.2.1 && (Nat.ble y17.1 y17.2.1)) && true) then
            (f59.F K (y17.1, (IntKind.wrap .u64 (List.getD y8.2.2.2.2.2.2.2.2.2.2.2.2 3 0)), 4, y17.1, (subI y17.2.2.2.2.2 0 y17.1))).bind fun y20 =>
            bif ((Nat.ble (0 + y20.1) y20.2.2.2.2.1 && (Nat.ble y20.1 y20.2.1)) && true) then
              (f59.F K (y20.1, (IntKind.wrap .u64 (List.getD y8.2.2.2.2.2.2.2.2.2.2.2.2 4 0)), 4, y20.1, (subI y20.2.2.2.2.2 0 y20.1))).bind fun y23 =>
              bif ((Nat.ble (0 + y23.1) y23.2.2.2.2.1 && (Nat.ble y23.1 y23.2.1)) && true) then
                (f59.F K (y23.1, (IntKind.wrap .u64 (List.getD y8.2.2.2.2.2.2.2.2.2.2.2.2 5 0)), 4, y23.1, (subI y23.2.2.2.2.2 0 y23.1))).bind fun y26 =>
                bif ((Nat.ble (0 + y26.1) y26.2.2.2.2.1 && (Nat.ble y26.1 y26.2.1)) && true) then
                  (f59.F K (y26.1, (IntKind.wrap .u64 (List.getD y8.2.2.2.2.2.2.2.2.2.2.2.2 6 0)), 4, y26.1, (subI y26.2.2.2.2.2 0 y26.1))).bind fun y29 =>
                  bif ((Nat.ble (0 + y29.1) y29.2.2.2.2.1 && (Nat.ble y29.1 y29.2.1)) && true) then
                    (f59.F K (y29.1, (IntKind.wrap .u64 (List.getD y8.2.2.2.2.2.2.2.2.2.2.2.2 7 0)), 4, y29.1, (subI y29.2.2.2.2.2 0 y29.1))).bind fun y32 =>
                    bif ((Nat.ble (0 + y32.1) y32.2.2.2.2.1 && true) && (Nat.beq y32.1 y32.1)) then
                      some ((spl [0, 0, 0, 0, 0, 0, 0, 0, 0, 0, 0, 0, 0, 0, 0, 0, 0, 0, 0, 0, 0, 0, 0, 0, 0, 0, 0, 0, 0, 0, 0, 0] 0 (Nat.min y32.1 32) (subI y32.2.2.2.2.2 0 y32.1)), m0_0, m0_1, m0_2)
                    else
                      none
                  else
                    none
                else
                  none
              else
                none
            else
              none
          else
            none
        else
          none
      else
        none
    else
      none
  else
    none
def f51.F (K : Nat) (x : f51.Ty1) : Option (f51.Ty0) := f51.T K x.1 x.2.1 x.2.2.1 x.2.2.2
def f51.av (_x : f51.Ty1) : List VV := [.ptr 0 0]
def f51.bl (x : f51.Ty1) : List (Nat × Blk) := [(0, ([.ptr 1 0, .ints .u8 64 x.1, .int .i64 x.2.1, .int .u64 x.2.2.1], 117, .norm)), (1, ([.ints .u32 8 x.2.2.2], 113, .norm))]
def f51.inA : VS → Option (f51.Ty1)
  | ⟨[(0, .ptr 0 0)], [(0, ([.ptr 1 0, .ints .u8 64 m0_0, .int .i64 m0_1, .int .u64 m0_2], 117, .norm)), (1, ([.ints .u32 8 m1], 113, .norm))], 2⟩ => some (m0_0, m0_1, m0_2, m1)
  | _ => none
def f51.o0 (y : f51.Ty0) : VS := ⟨[(0, .agg [.ints .u8 32 y.1])], [(0, ([.ptr 1 0, .ints .u8 64 y.2.1, .int .i64 y.2.2.1, .int .u64 y.2.2.2], 117, .norm)), (1, ([], 113, .dead))], 2⟩
def f51.inR : VS → Option (f51.Ty0)
  | ⟨[(0, .agg [.ints .u8 32 y])], [(0, ([.ptr 1 0, .ints .u8 64 z0_0, .int .i64 z0_1, .int .u64 z0_2], 117, .norm)), (1, ([], 113, .dead))], 2⟩ => some (y, z0_0, z0_1, z0_2)
  | _ => none
noncomputable def f51.E (K : Nat) : Entry := genE 2 f51.inA (f51.F K) (dv1 f51.o0)
theorem f51.ok (K : Nat) : EntryOK Try.prog 51 (f51.E K) := gen_ok mix tys_ok (sp := tabSp [(59, (viewE [(0, .u8)] (f59.E K))), (57, (rowsE 1 .u8 (f57v1.E K)))]) (tab_ok ((tab_cons (view_ok (f59.ok K)) (tab_cons (rows_ok (f57v1.ok K)) tab_nil)))) Try.func51 (c := bodyOf Try.f51) (by kernel_rfl) (by kernel_rfl) (loops_none (lp := lpNone) (by kernel_rfl)) (av := f51.av) (bl := f51.bl) (inR := f51.inR) (out := f51.o0) (fuel := 400)
  (by intro s x h; unfold f51.inA at h; split at h <;> simp at h; subst h; rfl) (fun _ => Nat.le_of_ble_eq_true rfl)
  (by intro s y h; unfold f51.inR at h; split at h <;> simp at h <;> subst h <;> rfl) (fun _ _ _ => rfl) (fun _ => by kernel_rfl)
end Go.Proofs

namespace Go.Proofs
open Go.VM
end Go.Proofs

namespace Go.Proofs
open Go.VM
end Go.Proofs

namespace Go.Proofs
open Go.VM
end Go.Proofs

namespace Go.Proofs
open Go.VM
def Sh.frame (p : List Int) : List Int := be 4 p.length ++ p
def Sh.padded (m : List Int) : List Int := m ++ [128] ++ List.replicate ((119 - m.length % 64) % 64) 0 ++ be 8 (8 * m.length)
def Sh.digest (s : List Int) : List Int := (List.range 8).flatMap fun i => be 4 (IntKind.wrap .u64 (s.getD i 0)).toNat
def Sh.sum (m : List Int) : List Int := Sh.digest (Sh.chain (Sh.padded m) ((Sh.padded m).length / 64))
theorem digest_length (s : List Int) : (Sh.digest s).length = 32 := by
  simp [Sh.digest, List.range, List.range.loop, be_length]
theorem digest_octets (s : List Int) : octets (Sh.digest s) := by
  intro x hx
  simp only [Sh.digest, List.mem_flatMap] at hx
  obtain ⟨i, _, h⟩ := hx
  exact be_octets _ _ x h
theorem wrap_pos (z : Int) : IntKind.wrap .u64 z = ((IntKind.wrap .u64 z).toNat : Int) ∧ (IntKind.wrap .u64 z).toNat < 18446744073709551616 := by
  simp only [IntKind.wrap, IntKind.signed, IntKind.bits]
  simp
  omega
theorem sub_zero (l : List Int) (n : Nat) (h : l = []) : subI l 0 n = List.replicate n 0 := by
  subst h
  refine List.ext_getElem? fun i => ?_
  by_cases hi : i < n
  · simp [subI, hi]
  · rw [List.getElem?_eq_none (by simpa [subI] using hi), List.getElem?_eq_none (by simpa using hi)]
theorem f51.spec (K : Nat) (m b s : List Int) (h : Int) (R : Sh.Rep m b h s) (hK : 200 < K) :
    f51.F K (b, h, ((m.length % 18446744073709551616 : Nat) : Int), s) = some (Sh.sum m, b, h, ((m.length % 18446744073709551616 : Nat) : Int)) := by
  have hr : m.length % 64 < 64 := Nat.mod_lt _ (by decide)
  have e2 : Int.tmod (IntKind.wrap .i64 (119 - ((m.length % 64 : Nat) : Int))) 64 = (((119 - m.length % 64) % 64 : Nat) : Int) := by
    rw [wrap_i _ (by omega) (by omega), show (119 : Int) - ((m.length % 64 : Nat) : Int) = ((119 - m.length % 64 : Nat) : Int) by omega]
    exact tmod_nat _ 64
  have e8 : IntKind.wrap .u64 (8 * ((m.length % 18446744073709551616 : Nat) : Int)) = ((8 * m.length % 18446744073709551616 : Nat) : Int) := by
    rw [show (8 : Int) * ((m.length % 18446744073709551616 : Nat) : Int) = ((8 * (m.length % 18446744073709551616) : Nat) : Int) by omega, wrap_nat]
    congr 1
    omega
  simp only [f51.F, f51.T]
  rw [R.held, e2]
  generalize hp : (119 - m.length % 64) % 64 = p
  have hp64 : p < 64 := by omega
  have el : lenOK (p : Int) (p : Int) 1 = true := by
    simp only [lenOK, Int.toNat_natCast]
    rw [decide_eq_true (show (0 : Int) ≤ (p : Int) ∧ (p : Int) ≤ (p : Int) by omega), fitB_true (by omega), fitB_true (by omega)]; rfl
  have e1 := f59.spec K 0 8 (8 * m.length % 18446744073709551616) [] rfl (Nat.mod_lt _ (by decide)) (by omega) (by omega)
  rw [List.nil_append, show (18446744073709551616 : Nat) = 256 ^ 8 from rfl, be_mod, ← show (18446744073709551616 : Nat) = 256 ^ 8 from rfl, Nat.zero_add] at e1
  rw [el, cond_t, e8]
  simp only [Int.toNat_natCast]
  rw [show ((8 : Int)) = ((8 : Nat) : Int) from rfl, e1, bind_s]
  simp only []
  rw [Nat.zero_add, ble_true (Nat.le_refl p), ble_true (Nat.le_refl 8), Bool.and_self, Bool.and_self, Bool.and_self, cond_t, sub_zero [] p rfl, subI_self (be 8 (8 * m.length)) (be_length _ _)]
  obtain ⟨b', h', s', e3, R'⟩ := f57v1.spec K m 1 [128] p (List.replicate p 0) 8 (be 8 (8 * m.length)) rfl (by intro x hx; simp only [List.mem_singleton] at hx; omega) (by omega) (by simp) (octets_zeros _) (by omega) (be_length _ _) (be_octets _ _) (by omega) b s _ R (by omega)
  rw [R.held] at e3
  have hz : (m ++ [128] ++ List.replicate p 0 ++ be 8 (8 * m.length)) = Sh.padded m := by rw [Sh.padded, hp]
  rw [hz] at e3 R'
  rw [e3, bind_s]
  simp only []
  have hsum : Sh.digest s' = Sh.sum m := by rw [Sh.sum, ← R'.st]
  obtain ⟨x0, g0, t0⟩ : ∃ x : Nat, IntKind.wrap .u64 (List.getD s' 0 0) = (x : Int) ∧ x < 18446744073709551616 := ⟨_, wrap_pos _⟩
  obtain ⟨x1, g1, t1⟩ : ∃ x : Nat, IntKind.wrap .u64 (List.getD s' 1 0) = (x : Int) ∧ x < 18446744073709551616 := ⟨_, wrap_pos _⟩
  obtain ⟨x2, g2, t2⟩ : ∃ x : Nat, IntKind.wrap .u64 (List.getD s' 2 0) = (x : Int) ∧ x < 18446744073709551616 := ⟨_, wrap_pos _⟩
  obtain ⟨x3, g3, t3⟩ : ∃ x : Nat, IntKind.wrap .u64 (List.getD s' 3 0) = (x : Int) ∧ x < 18446744073709551616 := ⟨_, wrap_pos _⟩
  obtain ⟨x4, g4, t4⟩ : ∃ x : Nat, IntKind.wrap .u64 (List.getD s' 4 0) = (x : Int) ∧ x < 18446744073709551616 := ⟨_, wrap_pos _⟩
  obtain ⟨x5, g5, t5⟩ : ∃ x : Nat, IntKind.wrap .u64 (List.getD s' 5 0) = (x : Int) ∧ x < 18446744073709551616 := ⟨_, wrap_pos _⟩
  obtain ⟨x6, g6, t6⟩ : ∃ x : Nat, IntKind.wrap .u64 (List.getD s' 6 0) = (x : Int) ∧ x < 18446744073709551616 := ⟨_, wrap_pos _⟩
  obtain ⟨x7, g7, t7⟩ : ∃ x : Nat, IntKind.wrap .u64 (List.getD s' 7 0) = (x : Int) ∧ x < 18446744073709551616 := ⟨_, wrap_pos _⟩
  have hd : Sh.digest s' = []  ++ be 4 x0 ++ be 4 x1 ++ be 4 x2 ++ be 4 x3 ++ be 4 x4 ++ be 4 x5 ++ be 4 x6 ++ be 4 x7 := by
    simp only [Sh.digest, List.range, List.range.loop, List.flatMap_cons, List.flatMap_nil, List.append_nil, List.nil_append, g0, g1, g2, g3, g4, g5, g6, g7, Int.toNat_natCast, List.append_assoc]
  rw [hsum] at hd
  have p0 : f59.F K (0, (x0 : Int), ((4 : Nat) : Int), 0, []) = some (4, 4, 0, [], 4, [] ++ be 4 x0) := f59.spec K 0 4 x0 ([]) (by simp [be_length]) t0 (by omega) (by omega)
  rw [g0, show ((4 : Int)) = ((4 : Nat) : Int) from rfl, p0, bind_s]
  simp only []
  rw [Nat.zero_add, ble_true (Nat.le_refl 4), Bool.and_self, Bool.and_self, cond_t]
  have p1 : f59.F K (4, (x1 : Int), ((4 : Nat) : Int), 4, [] ++ be 4 x0) = some (8, 8, 4, [] ++ be 4 x0, 8, [] ++ be 4 x0 ++ be 4 x1) := f59.spec K 4 4 x1 ([] ++ be 4 x0) (by simp [be_length]) t1 (by omega) (by omega)
  rw [g1, subI_self ([] ++ be 4 x0) (show _ = 4 by simp [be_length]), p1, bind_s]
  simp only []
  rw [Nat.zero_add, ble_true (Nat.le_refl 8), Bool.and_self, Bool.and_self, cond_t]
  have p2 : f59.F K (8, (x2 : Int), ((4 : Nat) : Int), 8, [] ++ be 4 x0 ++ be 4 x1) = some (12, 12, 8, [] ++ be 4 x0 ++ be 4 x1, 12, [] ++ be 4 x0 ++ be 4 x1 ++ be 4 x2) := f59.spec K 8 4 x2 ([] ++ be 4 x0 ++ be 4 x1) (by simp [be_length]) t2 (by omega) (by omega)
  rw [g2, subI_self ([] ++ be 4 x0 ++ be 4 x1) (show _ = 8 by simp [be_length]), p2, bind_s]
  simp only []
  rw [Nat.zero_add, ble_true (Nat.le_refl 12), Bool.and_self, Bool.and_self, cond_t]
  have p3 : f59.F K (12, (x3 : Int), ((4 : Nat) : Int), 12, [] ++ be 4 x0 ++ be 4 x1 ++ be 4 x2) = some (16, 16, 12, [] ++ be 4 x0 ++ be 4 x1 ++ be 4 x2, 16, [] ++ be 4 x0 ++ be 4 x1 ++ be 4 x2 ++ be 4 x3) := f59.spec K 12 4 x3 ([] ++ be 4 x0 ++ be 4 x1 ++ be 4 x2) (by simp [be_length]) t3 (by omega) (by omega)
  rw [g3, subI_self ([] ++ be 4 x0 ++ be 4 x1 ++ be 4 x2) (show _ = 12 by simp [be_length]), p3, bind_s]
  simp only []
  rw [Nat.zero_add, ble_true (Nat.le_refl 16), Bool.and_self, Bool.and_self, cond_t]
  have p4 : f59.F K (16, (x4 : Int), ((4 : Nat) : Int), 16, [] ++ be 4 x0 ++ be 4 x1 ++ be 4 x2 ++ be 4 x3) = some (20, 20, 16, [] ++ be 4 x0 ++ be 4 x1 ++ be 4 x2 ++ be 4 x3, 20, [] ++ be 4 x0 ++ be 4 x1 ++ be 4 x2 ++ be 4 x3 ++ be 4 x4) := f59.spec K 16 4 x4 ([] ++ be 4 x0 ++ be 4 x1 ++ be 4 x2 ++ be 4 x3) (by simp [be_length]) t4 (by omega) (by omega)
  rw [g4, subI_self ([] ++ be 4 x0 ++ be 4 x1 ++ be 4 x2 ++ be 4 x3) (show _ = 16 by simp [be_length]), p4, bind_s]
  simp only []
  rw [Nat.zero_add, ble_true (Nat.le_refl 20), Bool.and_self, Bool.and_self, cond_t]
  have p5 : f59.F K (20, (x5 : Int), ((4 : Nat) : Int), 20, [] ++ be 4 x0 ++ be 4 x1 ++ be 4 x2 ++ be 4 x3 ++ be 4 x4) = some (24, 24, 20, [] ++ be 4 x0 ++ be 4 x1 ++ be 4 x2 ++ be 4 x3 ++ be 4 x4, 24, [] ++ be 4 x0 ++ be 4 x1 ++ be 4 x2 ++ be 4 x3 ++ be 4 x4 ++ be 4 x5) := f59.spec K 20 4 x5 ([] ++ be 4 x0 ++ be 4 x1 ++ be 4 x2 ++ be 4 x3 ++ be 4 x4) (by simp [be_length]) t5 (by omega) (by omega)
  rw [g5, subI_self ([] ++ be 4 x0 ++ be 4 x1 ++ be 4 x2 ++ be 4 x3 ++ be 4 x4) (show _ = 20 by simp [be_length]), p5, bind_s]
  simp only []
  rw [Nat.zero_add, ble_true (Nat.le_refl 24), Bool.and_self, Bool.and_self, cond_t]
  have p6 : f59.F K (24, (x6 : Int), ((4 : Nat) : Int), 24, [] ++ be 4 x0 ++ be 4 x1 ++ be 4 x2 ++ be 4 x3 ++ be 4 x4 ++ be 4 x5) = some (28, 28, 24, [] ++ be 4 x0 ++ be 4 x1 ++ be 4 x2 ++ be 4 x3 ++ be 4 x4 ++ be 4 x5, 28, [] ++ be 4 x0 ++ be 4 x1 ++ be 4 x2 ++ be 4 x3 ++ be 4 x4 ++ be 4 x5 ++ be 4 x6) := f59.spec K 24 4 x6 ([] ++ be 4 x0 ++ be 4 x1 ++ be 4 x2 ++ be 4 x3 ++ be 4 x4 ++ be 4 x5) (by simp [be_length]) t6 (by omega) (by omega)
  rw [g6, subI_self ([] ++ be 4 x0 ++ be 4 x1 ++ be 4 x2 ++ be 4 x3 ++ be 4 x4 ++ be 4 x5) (show _ = 24 by simp [be_length]), p6, bind_s]
  simp only []
  rw [Nat.zero_add, ble_true (Nat.le_refl 28), Bool.and_self, Bool.and_self, cond_t]
  have p7 : f59.F K (28, (x7 : Int), ((4 : Nat) : Int), 28, [] ++ be 4 x0 ++ be 4 x1 ++ be 4 x2 ++ be 4 x3 ++ be 4 x4 ++ be 4 x5 ++ be 4 x6) = some (32, 32, 28, [] ++ be 4 x0 ++ be 4 x1 ++ be 4 x2 ++ be 4 x3 ++ be 4 x4 ++ be 4 x5 ++ be 4 x6, 32, [] ++ be 4 x0 ++ be 4 x1 ++ be 4 x2 ++ be 4 x3 ++ be 4 x4 ++ be 4 x5 ++ be 4 x6 ++ be 4 x7) := f59.spec K 28 4 x7 ([] ++ be 4 x0 ++ be 4 x1 ++ be 4 x2 ++ be 4 x3 ++ be 4 x4 ++ be 4 x5 ++ be 4 x6) (by simp [be_length]) t7 (by omega) (by omega)
  rw [g7, subI_self ([] ++ be 4 x0 ++ be 4 x1 ++ be 4 x2 ++ be 4 x3 ++ be 4 x4 ++ be 4 x5 ++ be 4 x6) (show _ = 28 by simp [be_length]), p7, bind_s]
  simp only []
  rw [Nat.zero_add, ble_true (Nat.le_refl 32)]
  rw [Bool.and_self, show Nat.beq 32 32 = true from rfl, Bool.and_self, cond_t, subI_self ([] ++ be 4 x0 ++ be 4 x1 ++ be 4 x2 ++ be 4 x3 ++ be 4 x4 ++ be 4 x5 ++ be 4 x6 ++ be 4 x7) (show _ = 32 by simp [be_length]), ← hd, spl, show Nat.min 32 32 = 32 from rfl, padT_self (Sh.sum m) (digest_length _)]
  rfl
end Go.Proofs

namespace Go.Proofs
open Go.VM
end Go.Proofs

namespace Go.Proofs
open Go.VM
end Go.Proofs

namespace Go.Proofs
open Go.VM
end Go.Proofs

namespace Go.Proofs
open Go.VM
end Go.Proofs

namespace Go.Proofs
open Go.VM
end Go.Proofs

namespace Go.Proofs
open Go.VM
end Go.Proofs

namespace Go.Proofs
open Go.VM
end Go.Proofs

namespace Go.Proofs
open Go.VM
end Go.Proofs

namespace Go.Proofs
open Go.VM
end Go.Proofs

namespace Go.Proofs
open Go.VM
end Go.Proofs

namespace Go.Proofs
open Go.VM
end Go.Proofs

namespace Go.Proofs
open Go.VM
end Go.Proofs

namespace Go.Proofs
open Go.VM
end Go.Proofs

namespace Go.Proofs
open Go.VM
end Go.Proofs

namespace Go.Proofs
open Go.VM
end Go.Proofs

namespace Go.Proofs
open Go.VM
def Sh.cut (name : List Int) (ps : List (List Int)) : List Int := Sh.frame name ++ be 4 ps.length ++ ps.flatMap Sh.frame
theorem Sh.rep0 : Sh.Rep [] [0, 0, 0, 0, 0, 0, 0, 0, 0, 0, 0, 0, 0, 0, 0, 0, 0, 0, 0, 0, 0, 0, 0, 0, 0, 0, 0, 0, 0, 0, 0, 0, 0, 0, 0, 0, 0, 0, 0, 0, 0, 0, 0, 0, 0, 0, 0, 0, 0, 0, 0, 0, 0, 0, 0, 0, 0, 0, 0, 0, 0, 0, 0, 0] 0 Sh.init :=
  ⟨rfl, by intro x hx; simp only [List.mem_cons, List.not_mem_nil, or_false, or_self] at hx; omega, rfl, rfl, rfl⟩
end Go.Proofs

namespace Go.Proofs
open Go.VM
abbrev f49.Ty0 := List Int × Int × Int × List Int
def f49.T (_K : Nat)  : Option (f49.Ty0) :=
  some ([0, 0, 0, 0, 0, 0, 0, 0, 0, 0, 0, 0, 0, 0, 0, 0, 0, 0, 0, 0, 0, 0, 0, 0, 0, 0, 0, 0, 0, 0, 0, 0, 0, 0, 0, 0, 0, 0, 0, 0, 0, 0, 0, 0, 0, 0, 0, 0, 0, 0, 0, 0, 0, 0, 0, 0, 0, 0, 0, 0, 0, 0, 0, 0], 0, 0, [1779033703, 3144134277, 1013904242, 2773480762, 1359893119, 2600822924, 528734635, 1541459225])
def f49.F (K : Nat) (_x : Unit) : Option (f49.Ty0) := f49.T K
def f49.av (_x : Unit) : List VV := []
def f49.bl (_x : Unit) : List (Nat × Blk) := []
def f49.inA : VS → Option (Unit)
  | ⟨[], [], 0⟩ => some ()
  | _ => none
def f49.o0 (y : f49.Ty0) : VS := ⟨[(0, .ptr 0 0)], [(0, ([.ptr 1 0, .ints .u8 64 y.1, .int .i64 y.2.1, .int .u64 y.2.2.1], 117, .norm)), (1, ([.ints .u32 8 y.2.2.2], 113, .norm))], 2⟩
def f49.inR : VS → Option (f49.Ty0)
  | ⟨[(0, .ptr 0 0)], [(0, ([.ptr 1 0, .ints .u8 64 z0_0, .int .i64 z0_1, .int .u64 z0_2], 117, .norm)), (1, ([.ints .u32 8 z1], 113, .norm))], 2⟩ => some (z0_0, z0_1, z0_2, z1)
  | _ => none
noncomputable def f49.E (K : Nat) : Entry := genE 0 f49.inA (f49.F K) (dv1 f49.o0)
theorem f49.ok (K : Nat) : EntryOK Try.prog 49 (f49.E K) := gen_ok mix tys_ok (tab_ok ( tab_nil)) Try.func49 (c := bodyOf Try.f49) (by kernel_rfl) (by kernel_rfl) (loops_none (lp := lpNone) (by kernel_rfl)) (av := f49.av) (bl := f49.bl) (inR := f49.inR) (out := f49.o0) (fuel := 400)
  (by intro s x h; unfold f49.inA at h; split at h <;> simp at h; rfl) (fun _ => Nat.le_of_ble_eq_true rfl)
  (by intro s y h; unfold f49.inR at h; split at h <;> simp at h <;> subst h <;> rfl) (fun _ _ _ => rfl) (fun _ => by kernel_rfl)
end Go.Proofs

namespace Go.Proofs
open Go.VM
abbrev f30.Ty0 := List Int × Nat × List Int
abbrev f30.Ty1 := Nat × Nat × List Int
def f30.T (K : Nat) (a0 : Nat) (m0_0 : Nat) (m0_1 : List Int) : Option (f30.Ty0) :=
  (f49.F K ()).bind fun y1 =>
  bif ((Nat.ble (0 + a0) m0_0 && true) && true) then
    (f57.F K (y1.1, y1.2.1, y1.2.2.1, a0, y1.2.2.2, a0, (subI m0_1 0 a0))).bind fun y2 =>
    (f51.F K (y2.1, y2.2.1, y2.2.2.1, y2.2.2.2.2.2.2)).bind fun y3 =>
    some (y3.1, m0_0, m0_1)
  else
    none
def f30.F (K : Nat) (x : f30.Ty1) : Option (f30.Ty0) := f30.T K x.1 x.2.1 x.2.2
def f30.av (x : f30.Ty1) : List VV := [.vw true 0 0 x.1 1]
def f30.bl (x : f30.Ty1) : List (Nat × Blk) := [(0, ([.ints .u8 x.2.1 x.2.2], 0, .ro))]
def f30.inA : VS → Option (f30.Ty1)
  | ⟨[(0, .vw true 0 0 a0 1)], [(0, ([.ints .u8 m0_0 m0_1], 0, .ro))], 2⟩ => some (a0, m0_0, m0_1)
  | _ => none
def f30.o0 (y : f30.Ty0) : VS := ⟨[(0, .agg [.ints .u8 32 y.1])], [(0, ([.ints .u8 y.2.1 y.2.2], 0, .ro))], 2⟩
def f30.inR : VS → Option (f30.Ty0)
  | ⟨[(0, .agg [.ints .u8 32 y])], [(0, ([.ints .u8 z0_0 z0_1], 0, .ro))], 2⟩ => some (y, z0_0, z0_1)
  | _ => none
noncomputable def f30.E (K : Nat) : Entry := genE 2 f30.inA (f30.F K) (dv1 f30.o0)
theorem f30.ok (K : Nat) : EntryOK Try.prog 30 (f30.E K) := gen_ok mix tys_ok (sp := tabSp [(49, (f49.E K)), (57, (rowsE 1 .u8 (f57.E K))), (51, (f51.E K))]) (tab_ok ((tab_cons (f49.ok K) (tab_cons (rows_ok (f57.ok K)) (tab_cons (f51.ok K) tab_nil))))) Try.func30 (c := bodyOf Try.f30) (by kernel_rfl) (by kernel_rfl) (loops_none (lp := lpNone) (by kernel_rfl)) (av := f30.av) (bl := f30.bl) (inR := f30.inR) (out := f30.o0) (fuel := 400)
  (by intro s x h; unfold f30.inA at h; split at h <;> simp at h; subst h; rfl) (fun _ => Nat.le_of_ble_eq_true rfl)
  (by intro s y h; unfold f30.inR at h; split at h <;> simp at h <;> subst h <;> rfl) (fun _ _ _ => rfl) (fun _ => by kernel_rfl)
end Go.Proofs

namespace Go.Proofs
open Go.VM
abbrev f50.Ty0 := Int × List Int × Int × Int × Nat × List Int × List Int
abbrev f50.Ty1 := Nat × List Int × Int × Int × Nat × List Int × List Int
def f50.T (K : Nat) (a1 : Nat) (m0_0 : List Int) (m0_1 : Int) (m0_2 : Int) (m1_0 : Nat) (m1_1 : List Int) (m3 : List Int) : Option (f50.Ty0) :=
  bif ((Nat.ble (0 + a1) m1_0 && true) && true) then
    (f57.F K (m0_0, m0_1, m0_2, a1, m3, a1, (subI m1_1 0 a1))).bind fun y1 =>
    some (0, y1.1, y1.2.1, y1.2.2.1, m1_0, m1_1, y1.2.2.2.2.2.2)
  else
    none
def f50.F (K : Nat) (x : f50.Ty1) : Option (f50.Ty0) := f50.T K x.1 x.2.1 x.2.2.1 x.2.2.2.1 x.2.2.2.2.1 x.2.2.2.2.2.1 x.2.2.2.2.2.2
def f50.av (x : f50.Ty1) : List VV := [.ptr 0 0, .vw true 1 0 x.1 2]
def f50.bl (x : f50.Ty1) : List (Nat × Blk) := [(0, ([.ptr 3 0, .ints .u8 64 x.2.1, .int .i64 x.2.2.1, .int .u64 x.2.2.2.1], 117, .norm)), (1, ([.ints .u8 x.2.2.2.2.1 x.2.2.2.2.2.1], 0, .ro)), (3, ([.ints .u32 8 x.2.2.2.2.2.2], 113, .norm))]
def f50.inA : VS → Option (f50.Ty1)
  | ⟨[(0, .ptr 0 0), (1, .vw true 1 0 a1 2)], [(0, ([.ptr 3 0, .ints .u8 64 m0_0, .int .i64 m0_1, .int .u64 m0_2], 117, .norm)), (1, ([.ints .u8 m1_0 m1_1], 0, .ro)), (3, ([.ints .u32 8 m3], 113, .norm))], 4⟩ => some (a1, m0_0, m0_1, m0_2, m1_0, m1_1, m3)
  | _ => none
def f50.o0 (y : f50.Ty0) : VS := ⟨[(0, .int .i64 y.1)], [(0, ([.ptr 4 0, .ints .u8 64 y.2.1, .int .i64 y.2.2.1, .int .u64 y.2.2.2.1], 117, .norm)), (1, ([.ints .u8 y.2.2.2.2.1 y.2.2.2.2.2.1], 0, .ro)), (3, ([], 113, .dead)), (4, ([.ints .u32 8 y.2.2.2.2.2.2], 113, .norm))], 5⟩
def f50.inR : VS → Option (f50.Ty0)
  | ⟨[(0, .int .i64 y)], [(0, ([.ptr 4 0, .ints .u8 64 z0_0, .int .i64 z0_1, .int .u64 z0_2], 117, .norm)), (1, ([.ints .u8 z1_0 z1_1], 0, .ro)), (3, ([], 113, .dead)), (4, ([.ints .u32 8 z4], 113, .norm))], 5⟩ => some (y, z0_0, z0_1, z0_2, z1_0, z1_1, z4)
  | _ => none
noncomputable def f50.E (K : Nat) : Entry := genE 4 f50.inA (f50.F K) (dv1 f50.o0)
theorem f50.ok (K : Nat) : EntryOK Try.prog 50 (f50.E K) := gen_ok mix tys_ok (sp := tabSp [(57, (rowsE 1 .u8 (f57.E K)))]) (tab_ok ((tab_cons (rows_ok (f57.ok K)) tab_nil))) Try.func50 (c := bodyOf Try.f50) (by kernel_rfl) (by kernel_rfl) (loops_none (lp := lpNone) (by kernel_rfl)) (av := f50.av) (bl := f50.bl) (inR := f50.inR) (out := f50.o0) (fuel := 400)
  (by intro s x h; unfold f50.inA at h; split at h <;> simp at h; subst h; rfl) (fun _ => Nat.le_of_ble_eq_true rfl)
  (by intro s y h; unfold f50.inR at h; split at h <;> simp at h <;> subst h <;> rfl) (fun _ _ _ => rfl) (fun _ => by kernel_rfl)
end Go.Proofs

namespace Go.Proofs
open Go.VM
abbrev f48.Ty0 := Int × Int × List Int × List Int
abbrev f48.Ty1 := List Int × List Int
abbrev f48.Ty2 := Int × List Int
noncomputable def f48.c : Code := bodyOf Try.f48
def f48.s0t (_K : Nat) (rec : f48.Ty0 → Option (f48.Ty1)) (t0 : Int) (t7 : Int) (b0 : List Int) (b1 : List Int) : Option (f48.Ty1) :=
  bif (decide (t7 < 64)) then
    bif decide (0 ≤ t7 ∧ t7 < 64) then
      bif decide (0 ≤ t7 ∧ t7 < 64) then
        rec (t0, (IntKind.wrap .i64 (t7 + 1)), b0, (setD b1 (Int.toNat t7) (bits .xor .u8 (List.getD b1 (Int.toNat t7) 0) t0)))
      else
        none
    else
      none
  else
    some (b0, b1)
def f48.s0 (K : Nat) (rec : f48.Ty0 → Option (f48.Ty1)) (x : f48.Ty0) : Option (f48.Ty1) := f48.s0t K rec x.1 x.2.1 x.2.2.1 x.2.2.2
noncomputable def f48.s0.b : Code := (findLoop 0 f48.c).getD .skip
def f48.s0.h : Hint := { lv := [0, 4, 7] }
def f48.s0.ho : Hint := { lv := [4] }
def f48.s0.shp (x : f48.Ty0) : VS := ⟨[(0, .int .u8 x.1), (4, .ptr 1 0), (7, .int .i64 x.2.1)], [(0, ([.ints .u8 64 x.2.2.1], 75, .norm)), (1, ([.ints .u8 64 x.2.2.2], 75, .norm))], 2⟩
def f48.s0.inX : VS → Option (f48.Ty0)
  | ⟨[(0, .int .u8 t0), (4, .ptr 1 0), (7, .int .i64 t7)], [(0, ([.ints .u8 64 b0], 75, .norm)), (1, ([.ints .u8 64 b1], 75, .norm))], 2⟩ => some (t0, t7, b0, b1)
  | _ => none
def f48.s0.o0 (y : f48.Ty1) : VS := ⟨[(4, .ptr 1 0)], [(0, ([.ints .u8 64 y.1], 75, .norm)), (1, ([.ints .u8 64 y.2], 75, .norm))], 2⟩
def f48.s0.des : ∀ α : Type, (f48.Ty1) → (Ex → VS → Option α) → Option α := (des1 (.exit 0) f48.s0.o0)
def f48.s0.out : f48.Ty1 → Ex × VS := (fun y => (.exit 0, f48.s0.o0 y))
theorem f48.s0.desOK : ∀ α y (k : Ex → VS → Option α), f48.s0.des α y k = k (f48.s0.out y).1 (f48.s0.out y).2 := (fun _ _ _ => rfl)
def f48.s0.inY : Ex → VS → Option (f48.Ty1)
  | .exit 0, ⟨[(4, .ptr 1 0)], [(0, ([.ints .u8 64 b0], 75, .norm)), (1, ([.ints .u8 64 b1], 75, .norm))], 2⟩ => some (b0, b1)
  | _, _ => none
def f48.lp (K : Nat) : Nat → Option (Hint × Summ) := tabLp [(0, f48.s0.h, summOf (iter (f48.s0 K) K) f48.s0.inX f48.s0.des)]
noncomputable def f48.tab (_K : Nat) : List (Nat × Entry) := []
theorem f48.tabOK (K : Nat) : SpecOK Try.prog (tabSp (f48.tab K)) := tab_ok ( tab_nil)
theorem f48.s0.eq (K : Nat) (rec : f48.Ty0 → Option (f48.Ty1)) (x : f48.Ty0) : f48.s0 K rec x = roundL (getA tys) (tabSp (f48.tab K)) 18 1 (f48.lp K) 400 f48.s0.b f48.s0.h f48.s0.ho f48.s0.shp f48.s0.inX f48.s0.inY rec x := by kernel_rfl
theorem f48.s0.lok (K : Nat) : LoopsOK Try.prog 18 1 (f48.lp K) f48.s0.b := loops_ok (by
  have h : loopsIn (f48.lp K) f48.s0.b = [] := by kernel_rfl
  rw [h]; simp)
theorem f48.s0.ok (K : Nat) : SummOK Try.prog 18 1 (summOf (iter (f48.s0 K) K) f48.s0.inX f48.s0.des) f48.s0.b :=
  loop_ok mix tys_ok (f48.tabOK K) (h := f48.s0.h) (ho := f48.s0.ho) (shp := f48.s0.shp) (inX := f48.s0.inX) (des := f48.s0.des) (out := f48.s0.out) (inY := f48.s0.inY) (fuel := 400)
    (by intro st x h; unfold f48.s0.inX at h; split at h <;> simp at h; subst h; rfl)
    (by intro e st y h; unfold f48.s0.inY at h; split at h <;> simp at h <;> subst h <;> rfl)
    f48.s0.desOK (f48.s0.lok K) (f48.s0 K) (f48.s0.eq K) K
theorem f48.loops (K : Nat) : LoopsOK Try.prog 18 1 (f48.lp K) f48.c := loops_ok (by
  have h : loopsIn (f48.lp K) f48.c = [(0, f48.s0.b)] := by kernel_rfl
  rw [h]
  intro p hp
  simp only [List.mem_cons, List.not_mem_nil, or_false] at hp
  rcases hp with rfl
  · exact ⟨_, rfl, (f48.s0.ok K)⟩)
def f48.T (K : Nat) (a0 : Int) (m0 : List Int) : Option (f48.Ty1) :=
  (iter (f48.s0 K) K (a0, 0, m0, m0)).bind fun y8 =>
  some (y8.1, y8.2)
def f48.F (K : Nat) (x : f48.Ty2) : Option (f48.Ty1) := f48.T K x.1 x.2
def f48.av (x : f48.Ty2) : List VV := [.int .u8 x.1, .ptr 0 0]
def f48.bl (x : f48.Ty2) : List (Nat × Blk) := [(0, ([.ints .u8 64 x.2], 75, .norm))]
def f48.inA : VS → Option (f48.Ty2)
  | ⟨[(0, .int .u8 a0), (1, .ptr 0 0)], [(0, ([.ints .u8 64 m0], 75, .norm))], 1⟩ => some (a0, m0)
  | _ => none
def f48.o0 (y : f48.Ty1) : VS := ⟨[(0, .sl 1 0 64 64)], [(0, ([.ints .u8 64 y.1], 75, .norm)), (1, ([.ints .u8 64 y.2], 75, .norm))], 2⟩
def f48.des : ∀ α : Type, (f48.Ty1) → (VS → Option α) → Option α := (dv1 f48.o0)
def f48.out : f48.Ty1 → VS := f48.o0
def f48.inR : VS → Option (f48.Ty1)
  | ⟨[(0, .sl 1 0 64 64)], [(0, ([.ints .u8 64 z0], 75, .norm)), (1, ([.ints .u8 64 z1], 75, .norm))], 2⟩ => some (z0, z1)
  | _ => none
noncomputable def f48.E (K : Nat) : Entry := genE 1 f48.inA (f48.F K) f48.des
theorem f48.eq (K : Nat) (x : f48.Ty2) : f48.F K x = xrun (getA tys) (tabSp (f48.tab K)) Try.f48.ntmps 1 (f48.lp K) 400 f48.c ⟨initL 0 (f48.av x), f48.bl x, 1⟩ (contF (getA tys) 1 Try.f48.results.toList f48.inR) := by kernel_rfl
theorem f48.ok (K : Nat) : EntryOK Try.prog 48 (f48.E K) :=
  gen_ok mix tys_ok (f48.tabOK K) Try.func48 (by kernel_rfl : Try.f48.body = some f48.c) (by kernel_rfl) (f48.loops K) (av := f48.av) (bl := f48.bl) (out := f48.out) (fuel := 400)
    (by intro s x h; unfold f48.inA at h; split at h <;> simp at h; subst h; rfl) (fun _ => Nat.le_of_ble_eq_true rfl)
    (by intro s y h; unfold f48.inR at h; split at h <;> simp at h <;> subst h <;> rfl) (fun _ _ _ => rfl) (f48.eq K)
end Go.Proofs

namespace Go.Proofs
open Go.VM
theorem sum_length (m : List Int) : (Sh.sum m).length = 32 := digest_length _
theorem sum_octets (m : List Int) : octets (Sh.sum m) := digest_octets _
theorem f30.spec (K n : Nat) (m : List Int) (hm : m.length = n) (ho : octets m) (hn : n ≤ 1000000000000) (hK : 300 + n < K) : f30.F K (n, n, m) = some (Sh.sum m, n, m) := by
  simp only [f30.F, f30.T]
  rw [show f49.F K () = some ([0, 0, 0, 0, 0, 0, 0, 0, 0, 0, 0, 0, 0, 0, 0, 0, 0, 0, 0, 0, 0, 0, 0, 0, 0, 0, 0, 0, 0, 0, 0, 0, 0, 0, 0, 0, 0, 0, 0, 0, 0, 0, 0, 0, 0, 0, 0, 0, 0, 0, 0, 0, 0, 0, 0, 0, 0, 0, 0, 0, 0, 0, 0, 0], 0, 0, Sh.init) from rfl, bind_s]
  simp only []
  rw [Nat.zero_add, ble_true (Nat.le_refl n), Bool.and_self, Bool.and_self, cond_t, subI_self _ hm]
  obtain ⟨b', h', s', e, R⟩ := f57.spec K [] n m hm ho hn _ _ _ Sh.rep0 (by omega)
  rw [show f57.F K ([0, 0, 0, 0, 0, 0, 0, 0, 0, 0, 0, 0, 0, 0, 0, 0, 0, 0, 0, 0, 0, 0, 0, 0, 0, 0, 0, 0, 0, 0, 0, 0, 0, 0, 0, 0, 0, 0, 0, 0, 0, 0, 0, 0, 0, 0, 0, 0, 0, 0, 0, 0, 0, 0, 0, 0, 0, 0, 0, 0, 0, 0, 0, 0], 0, 0, n, Sh.init, n, m) = _ from e, bind_s]
  simp only []
  rw [f51.spec K _ _ _ _ R (by omega), bind_s]
  rfl
theorem f50.spec (K : Nat) (m : List Int) (n : Nat) (l : List Int) (hl : l.length = n) (ho : octets l) (hn : n ≤ 1000000000000) (b s : List Int) (h : Int) (R : Sh.Rep m b h s) (hK : 64 + n < K) :
    ∃ b' h' s', f50.F K (n, b, h, ((m.length % 18446744073709551616 : Nat) : Int), n, l, s) = some (0, b', h', (((m ++ l).length % 18446744073709551616 : Nat) : Int), n, l, s') ∧ Sh.Rep (m ++ l) b' h' s' := by
  obtain ⟨b', h', s', e, R'⟩ := f57.spec K m n l hl ho hn b s h R hK
  refine ⟨b', h', s', ?_, R'⟩
  simp only [f50.F, f50.T]
  rw [Nat.zero_add, ble_true (Nat.le_refl n), Bool.and_self, Bool.and_self, cond_t, subI_self _ hl, e, bind_s]
theorem list_getD {l m : List Int} (h : l.length = m.length) (g : ∀ i, i < l.length → l.getD i 0 = m.getD i 0) : l = m := by
  apply List.ext_getElem h
  intro i h1 h2
  have := g i h1
  simpa [List.getD_eq_getElem?_getD, h1, h2] using this
def Sh.xr (by' : Int) (k : List Int) : List Int := k.map fun x => bits .xor .u8 x by'
theorem wrap8 (z : Int) : IntKind.wrap .u8 z = z % 256 := by simp [IntKind.wrap, IntKind.signed, IntKind.bits]
theorem xor_octet (x y : Int) : 0 ≤ bits .xor .u8 x y ∧ bits .xor .u8 x y < 256 := by
  show 0 ≤ IntKind.wrap .u8 _ ∧ IntKind.wrap .u8 _ < 256
  rw [wrap8]
  omega
theorem xr_length (y : Int) (k : List Int) : (Sh.xr y k).length = k.length := by simp [Sh.xr]
theorem xr_octets (y : Int) (k : List Int) : octets (Sh.xr y k) := by
  intro x hx
  obtain ⟨z, _, rfl⟩ := List.mem_map.1 hx
  exact xor_octet z y
theorem f48.spec (K : Nat) (y : Int) (k : List Int) (hk : k.length = 64) (hK : 64 < K) : f48.F K (y, k) = some (k, Sh.xr y k) := by
  have := iter_for (stp := f48.s0 K) (N := 64) (fun i => (y, (i : Int), k, Sh.xr y (k.take i) ++ k.drop i)) (y := some (k, Sh.xr y k)) ?_ ?_ hK
  · simp only [f48.F, f48.T]
    rw [show iter (f48.s0 K) K (y, 0, k, k) = _ from this, bind_s]
  · intro i hi rec
    simp only [f48.s0, f48.s0t]
    have hd : List.getD (Sh.xr y (k.take i) ++ k.drop i) i 0 = k.getD i 0 := by
      rw [List.getD_eq_getElem?_getD, List.getElem?_append_right (by rw [xr_length, List.length_take]; omega), xr_length, List.length_take, List.getElem?_drop, List.getD_eq_getElem?_getD]
      congr 2; omega
    rw [decide_eq_true (show (i : Int) < 64 by omega), cond_t, decide_eq_true (show (0 : Int) ≤ (i : Int) ∧ (i : Int) < 64 by omega), cond_t, cond_t, Int.toNat_natCast, hd, wrap_i _ (by omega) (by omega), setD_eq_set _ _ _ (by rw [List.length_append, xr_length, List.length_take, List.length_drop]; omega)]
    congr 4
    have e1 : k.drop i = k.getD i 0 :: k.drop (i + 1) := by
      rw [List.drop_eq_getElem_cons (by omega)]; simp [List.getD_eq_getElem?_getD, show i < k.length by omega]
    have e2 : k.take (i + 1) = k.take i ++ [k.getD i 0] := by
      rw [List.take_add_one, List.getElem?_eq_getElem (by omega)]; simp [List.getD_eq_getElem?_getD, show i < k.length by omega]
    rw [e2, e1, List.set_append, if_neg (by rw [xr_length, List.length_take]; omega)]
    have e3 : i - (Sh.xr y (k.take i)).length = 0 := by rw [xr_length, List.length_take]; omega
    rw [e3]
    simp [Sh.xr]
  · intro rec
    simp only [f48.s0, f48.s0t]
    rw [decide_eq_false (show ¬ (((64 : Nat) : Int)) < 64 by omega), cond_f, List.take_of_length_le (by omega), List.drop_of_length_le (by omega), List.append_nil]
def Sh.key (k : List Int) : List Int := padT (if 64 < k.length then Sh.sum k else k) 64
def Sh.mac (k m : List Int) : List Int := Sh.sum (Sh.xr 92 (Sh.key k) ++ Sh.sum (Sh.xr 54 (Sh.key k) ++ m))
theorem spl_key (k : List Int) (n : Nat) (hk : k.length = n) (hn : n ≤ 64) :
    spl [0, 0, 0, 0, 0, 0, 0, 0, 0, 0, 0, 0, 0, 0, 0, 0, 0, 0, 0, 0, 0, 0, 0, 0, 0, 0, 0, 0, 0, 0, 0, 0, 0, 0, 0, 0, 0, 0, 0, 0, 0, 0, 0, 0, 0, 0, 0, 0, 0, 0, 0, 0, 0, 0, 0, 0, 0, 0, 0, 0, 0, 0, 0, 0] 0 n k = padT k 64 := by
  have hz : ([0, 0, 0, 0, 0, 0, 0, 0, 0, 0, 0, 0, 0, 0, 0, 0, 0, 0, 0, 0, 0, 0, 0, 0, 0, 0, 0, 0, 0, 0, 0, 0, 0, 0, 0, 0, 0, 0, 0, 0, 0, 0, 0, 0, 0, 0, 0, 0, 0, 0, 0, 0, 0, 0, 0, 0, 0, 0, 0, 0, 0, 0, 0, 0] : List Int) = List.replicate 64 0 := rfl
  rw [hz]
  refine list_getD (by simp [spl, padT]; omega) fun i hi => ?_
  have hi' : i < 64 := by simp [spl, padT] at hi; omega
  rw [getD_spl, getD_padT, if_pos hi']
  rw [if_neg (by omega)]
  by_cases h : i < n
  · rw [if_pos (by omega), Nat.sub_zero]
  · rw [if_neg (by omega)]
    simp only [List.getD_eq_getElem?_getD]
    rw [List.getElem?_eq_none (show k.length ≤ i by omega), List.getElem?_replicate, if_pos hi']
    rfl
theorem mac_run (K : Nat) (kb : List Int) (hk : kb.length = 64) (p : Nat) (m : List Int) (hm : m.length = p) (ho : octets m) (hp : p ≤ 1000000000000) (hK : 400 + p < K) {α : Type} (g : List Int → Option α) :
    ((f48.F K (54, kb)).bind fun y19 =>
      (f50.F K (64, [0, 0, 0, 0, 0, 0, 0, 0, 0, 0, 0, 0, 0, 0, 0, 0, 0, 0, 0, 0, 0, 0, 0, 0, 0, 0, 0, 0, 0, 0, 0, 0, 0, 0, 0, 0, 0, 0, 0, 0, 0, 0, 0, 0, 0, 0, 0, 0, 0, 0, 0, 0, 0, 0, 0, 0, 0, 0, 0, 0, 0, 0, 0, 0], 0, 0, 64, (subI y19.2 0 64), Sh.init)).bind fun y20 =>
      bif ((Nat.ble (0 + p) p && true) && true) then
        (f50.F K (p, y20.2.1, y20.2.2.1, y20.2.2.2.1, p, (subI m 0 p), y20.2.2.2.2.2.2)).bind fun y21 =>
        (f51.F K (y21.2.1, y21.2.2.1, y21.2.2.2.1, y21.2.2.2.2.2.2)).bind fun y22 =>
        (f48.F K (92, y19.1)).bind fun y23 =>
        (f50.F K (64, [0, 0, 0, 0, 0, 0, 0, 0, 0, 0, 0, 0, 0, 0, 0, 0, 0, 0, 0, 0, 0, 0, 0, 0, 0, 0, 0, 0, 0, 0, 0, 0, 0, 0, 0, 0, 0, 0, 0, 0, 0, 0, 0, 0, 0, 0, 0, 0, 0, 0, 0, 0, 0, 0, 0, 0, 0, 0, 0, 0, 0, 0, 0, 0], 0, 0, 64, (subI y23.2 0 64), Sh.init)).bind fun y24 =>
        (f50.F K (32, y24.2.1, y24.2.2.1, y24.2.2.2.1, 32, (subI y22.1 0 32), y24.2.2.2.2.2.2)).bind fun y25 =>
        (f51.F K (y25.2.1, y25.2.2.1, y25.2.2.2.1, y25.2.2.2.2.2.2)).bind fun y26 => g y26.1
      else none) = g (Sh.sum (Sh.xr 92 kb ++ Sh.sum (Sh.xr 54 kb ++ m))) := by
  rw [f48.spec K 54 kb hk (by omega), bind_s]
  simp only []
  rw [subI_self _ (show (Sh.xr 54 kb).length = 64 by rw [xr_length, hk])]
  obtain ⟨b1, h1, s1, e1, R1⟩ := f50.spec K [] 64 (Sh.xr 54 kb) (by rw [xr_length, hk]) (xr_octets _ _) (by omega) _ _ _ Sh.rep0 (by omega)
  rw [show f50.F K (64, [0, 0, 0, 0, 0, 0, 0, 0, 0, 0, 0, 0, 0, 0, 0, 0, 0, 0, 0, 0, 0, 0, 0, 0, 0, 0, 0, 0, 0, 0, 0, 0, 0, 0, 0, 0, 0, 0, 0, 0, 0, 0, 0, 0, 0, 0, 0, 0, 0, 0, 0, 0, 0, 0, 0, 0, 0, 0, 0, 0, 0, 0, 0, 0], 0, 0, 64, Sh.xr 54 kb, Sh.init) = _ from e1, bind_s]
  simp only []
  rw [Nat.zero_add, ble_true (Nat.le_refl p), Bool.and_self, Bool.and_self, cond_t, subI_self _ hm]
  obtain ⟨b2, h2, s2, e2, R2⟩ := f50.spec K _ p m hm ho hp _ _ _ R1 (by omega)
  rw [e2, bind_s]
  simp only []
  rw [f51.spec K _ _ _ _ R2 (by omega), bind_s]
  simp only []
  rw [f48.spec K 92 kb hk (by omega), bind_s]
  simp only []
  rw [subI_self _ (show (Sh.xr 92 kb).length = 64 by rw [xr_length, hk])]
  obtain ⟨b3, h3, s3, e3, R3⟩ := f50.spec K [] 64 (Sh.xr 92 kb) (by rw [xr_length, hk]) (xr_octets _ _) (by omega) _ _ _ Sh.rep0 (by omega)
  rw [show f50.F K (64, [0, 0, 0, 0, 0, 0, 0, 0, 0, 0, 0, 0, 0, 0, 0, 0, 0, 0, 0, 0, 0, 0, 0, 0, 0, 0, 0, 0, 0, 0, 0, 0, 0, 0, 0, 0, 0, 0, 0, 0, 0, 0, 0, 0, 0, 0, 0, 0, 0, 0, 0, 0, 0, 0, 0, 0, 0, 0, 0, 0, 0, 0, 0, 0], 0, 0, 64, Sh.xr 92 kb, Sh.init) = _ from e3, bind_s]
  simp only []
  rw [subI_self _ (sum_length _)]
  obtain ⟨b4, h4, s4, e4, R4⟩ := f50.spec K _ 32 _ (sum_length ([] ++ Sh.xr 54 kb ++ m)) (sum_octets _) (by omega) _ _ _ R3 (by omega)
  rw [e4, bind_s]
  simp only []
  rw [f51.spec K _ _ _ _ R4 (by omega), bind_s]
  simp only [List.nil_append]
end Go.Proofs

namespace Go.Proofs
open Go.VM
end Go.Proofs

namespace Go.Proofs
open Go.VM
abbrev f19.Ty0 := Nat × Nat × Int × Int × Int × Nat × List Int × Nat × List Int
abbrev f19.Ty1 := Nat × Nat × Nat × List Int × Nat × List Int
abbrev f19.Ty2 := Bool × Nat × List Int × Nat × List Int
abbrev f19.Ty3 := Int × Nat × List Int × Nat × List Int
noncomputable def f19.c : Code := bodyOf Try.f19
def f19.s0t (_K : Nat) (rec : f19.Ty0 → Option (f19.Ty3)) (t0 : Nat) (t1 : Nat) (t5 : Int) (t13 : Int) (t14 : Int) (b0_0 : Nat) (b0_1 : List Int) (b2_0 : Nat) (b2_1 : List Int) : Option (f19.Ty3) :=
  bif (decide (t14 < t13)) then
    bif decide (0 ≤ t14 ∧ t14 < ((t0 : Nat) : Int)) then
      let v5 := 0 + (Int.toNat t14)
      bif Nat.blt v5 b0_0 then
        bif decide (0 ≤ t14 ∧ t14 < ((t1 : Nat) : Int)) then
          let v7 := 0 + (Int.toNat t14)
          bif Nat.blt v7 b2_0 then
            rec (t0, t1, (bits .or .u8 t5 (bits .xor .u8 (List.getD b0_1 v5 0) (List.getD b2_1 v7 0))), t13, (IntKind.wrap .i64 (t14 + 1)), b0_0, b0_1, b2_0, b2_1)
          else
            none
        else
          none
      else
        none
    else
      none
  else
    some (t5, b0_0, b0_1, b2_0, b2_1)
def f19.s0 (K : Nat) (rec : f19.Ty0 → Option (f19.Ty3)) (x : f19.Ty0) : Option (f19.Ty3) := f19.s0t K rec x.1 x.2.1 x.2.2.1 x.2.2.2.1 x.2.2.2.2.1 x.2.2.2.2.2.1 x.2.2.2.2.2.2.1 x.2.2.2.2.2.2.2.1 x.2.2.2.2.2.2.2.2
noncomputable def f19.s0.b : Code := (findLoop 0 f19.c).getD .skip
def f19.s0.h : Hint := { lv := [0, 1, 5, 13, 14] }
def f19.s0.ho : Hint := { lv := [5] }
def f19.s0.shp (x : f19.Ty0) : VS := ⟨[(0, .vw true 0 0 x.1 1), (1, .vw true 2 0 x.2.1 3), (5, .int .u8 x.2.2.1), (13, .int .i64 x.2.2.2.1), (14, .int .i64 x.2.2.2.2.1)], [(0, ([.ints .u8 x.2.2.2.2.2.1 x.2.2.2.2.2.2.1], 0, .ro)), (2, ([.ints .u8 x.2.2.2.2.2.2.2.1 x.2.2.2.2.2.2.2.2], 0, .ro))], 4⟩
def f19.s0.inX : VS → Option (f19.Ty0)
  | ⟨[(0, .vw true 0 0 t0 1), (1, .vw true 2 0 t1 3), (5, .int .u8 t5), (13, .int .i64 t13), (14, .int .i64 t14)], [(0, ([.ints .u8 b0_0 b0_1], 0, .ro)), (2, ([.ints .u8 b2_0 b2_1], 0, .ro))], 4⟩ => some (t0, t1, t5, t13, t14, b0_0, b0_1, b2_0, b2_1)
  | _ => none
def f19.s0.o0 (y : f19.Ty3) : VS := ⟨[(5, .int .u8 y.1)], [(0, ([.ints .u8 y.2.1 y.2.2.1], 0, .ro)), (2, ([.ints .u8 y.2.2.2.1 y.2.2.2.2], 0, .ro))], 4⟩
def f19.s0.des : ∀ α : Type, (f19.Ty3) → (Ex → VS → Option α) → Option α := (des1 (.exit 0) f19.s0.o0)
def f19.s0.out : f19.Ty3 → Ex × VS := (fun y => (.exit 0, f19.s0.o0 y))
theorem f19.s0.desOK : ∀ α y (k : Ex → VS → Option α), f19.s0.des α y k = k (f19.s0.out y).1 (f19.s0.out y).2 := (fun _ _ _ => rfl)
def f19.s0.inY : Ex → VS → Option (f19.Ty3)
  | .exit 0, ⟨[(5, .int .u8 t5)], [(0, ([.ints .u8 b0_0 b0_1], 0, .ro)), (2, ([.ints .u8 b2_0 b2_1], 0, .ro))], 4⟩ => some (t5, b0_0, b0_1, b2_0, b2_1)
  | _, _ => none
def f19.lp (K : Nat) : Nat → Option (Hint × Summ) := tabLp [(0, f19.s0.h, summOf (iter (f19.s0 K) K) f19.s0.inX f19.s0.des)]
noncomputable def f19.tab (_K : Nat) : List (Nat × Entry) := []
theorem f19.tabOK (K : Nat) : SpecOK Try.prog (tabSp (f19.tab K)) := tab_ok ( tab_nil)
theorem f19.s0.eq (K : Nat) (rec : f19.Ty0 → Option (f19.Ty3)) (x : f19.Ty0) : f19.s0 K rec x = roundL (getA tys) (tabSp (f19.tab K)) 31 4 (f19.lp K) 400 f19.s0.b f19.s0.h f19.s0.ho f19.s0.shp f19.s0.inX f19.s0.inY rec x := by kernel_rfl
theorem f19.s0.lok (K : Nat) : LoopsOK Try.prog 31 4 (f19.lp K) f19.s0.b := loops_ok (by
  have h : loopsIn (f19.lp K) f19.s0.b = [] := by kernel_rfl
  rw [h]; simp)
theorem f19.s0.ok (K : Nat) : SummOK Try.prog 31 4 (summOf (iter (f19.s0 K) K) f19.s0.inX f19.s0.des) f19.s0.b :=
  loop_ok mix tys_ok (f19.tabOK K) (h := f19.s0.h) (ho := f19.s0.ho) (shp := f19.s0.shp) (inX := f19.s0.inX) (des := f19.s0.des) (out := f19.s0.out) (inY := f19.s0.inY) (fuel := 400)
    (by intro st x h; unfold f19.s0.inX at h; split at h <;> simp at h; subst h; rfl)
    (by intro e st y h; unfold f19.s0.inY at h; split at h <;> simp at h <;> subst h <;> rfl)
    f19.s0.desOK (f19.s0.lok K) (f19.s0 K) (f19.s0.eq K) K
theorem f19.loops (K : Nat) : LoopsOK Try.prog 31 4 (f19.lp K) f19.c := loops_ok (by
  have h : loopsIn (f19.lp K) f19.c = [(0, f19.s0.b)] := by kernel_rfl
  rw [h]
  intro p hp
  simp only [List.mem_cons, List.not_mem_nil, or_false] at hp
  rcases hp with rfl
  · exact ⟨_, rfl, (f19.s0.ok K)⟩)
def f19.T (K : Nat) (a0 : Nat) (a1 : Nat) (m0_0 : Nat) (m0_1 : List Int) (m2_0 : Nat) (m2_1 : List Int) : Option (f19.Ty2) :=
  bif (((a0 : Nat) : Int) != ((a1 : Nat) : Int)) then
    some (false, m0_0, m0_1, m2_0, m2_1)
  else
    (iter (f19.s0 K) K (a0, a1, 0, ((a0 : Nat) : Int), 0, m0_0, m0_1, m2_0, m2_1)).bind fun y12 =>
    some ((y12.1 == 0), y12.2.1, y12.2.2.1, y12.2.2.2.1, y12.2.2.2.2)
def f19.F (K : Nat) (x : f19.Ty1) : Option (f19.Ty2) := f19.T K x.1 x.2.1 x.2.2.1 x.2.2.2.1 x.2.2.2.2.1 x.2.2.2.2.2
def f19.av (x : f19.Ty1) : List VV := [.vw true 0 0 x.1 1, .vw true 2 0 x.2.1 3]
def f19.bl (x : f19.Ty1) : List (Nat × Blk) := [(0, ([.ints .u8 x.2.2.1 x.2.2.2.1], 0, .ro)), (2, ([.ints .u8 x.2.2.2.2.1 x.2.2.2.2.2], 0, .ro))]
def f19.inA : VS → Option (f19.Ty1)
  | ⟨[(0, .vw true 0 0 a0 1), (1, .vw true 2 0 a1 3)], [(0, ([.ints .u8 m0_0 m0_1], 0, .ro)), (2, ([.ints .u8 m2_0 m2_1], 0, .ro))], 4⟩ => some (a0, a1, m0_0, m0_1, m2_0, m2_1)
  | _ => none
def f19.o0 (y : f19.Ty2) : VS := ⟨[(0, .bool y.1)], [(0, ([.ints .u8 y.2.1 y.2.2.1], 0, .ro)), (2, ([.ints .u8 y.2.2.2.1 y.2.2.2.2], 0, .ro))], 4⟩
def f19.des : ∀ α : Type, (f19.Ty2) → (VS → Option α) → Option α := (dv1 f19.o0)
def f19.out : f19.Ty2 → VS := f19.o0
def f19.inR : VS → Option (f19.Ty2)
  | ⟨[(0, .bool y)], [(0, ([.ints .u8 z0_0 z0_1], 0, .ro)), (2, ([.ints .u8 z2_0 z2_1], 0, .ro))], 4⟩ => some (y, z0_0, z0_1, z2_0, z2_1)
  | _ => none
noncomputable def f19.E (K : Nat) : Entry := genE 4 f19.inA (f19.F K) f19.des
theorem f19.eq (K : Nat) (x : f19.Ty1) : f19.F K x = xrun (getA tys) (tabSp (f19.tab K)) Try.f19.ntmps 4 (f19.lp K) 400 f19.c ⟨initL 0 (f19.av x), f19.bl x, 4⟩ (contF (getA tys) 4 Try.f19.results.toList f19.inR) := by kernel_rfl
theorem f19.ok (K : Nat) : EntryOK Try.prog 19 (f19.E K) :=
  gen_ok mix tys_ok (f19.tabOK K) Try.func19 (by kernel_rfl : Try.f19.body = some f19.c) (by kernel_rfl) (f19.loops K) (av := f19.av) (bl := f19.bl) (out := f19.out) (fuel := 400)
    (by intro s x h; unfold f19.inA at h; split at h <;> simp at h; subst h; rfl) (fun _ => Nat.le_of_ble_eq_true rfl)
    (by intro s y h; unfold f19.inR at h; split at h <;> simp at h <;> subst h <;> rfl) (fun _ _ _ => rfl) (f19.eq K)
end Go.Proofs

namespace Go.Proofs
open Go.VM
theorem take_next {l : List Int} {i : Nat} (h : i < l.length) : l.take i ++ [l.getD i 0] = l.take (i + 1) := by
  rw [List.take_add_one, List.getElem?_eq_getElem h]; simp [List.getD_eq_getElem?_getD, h]
end Go.Proofs

namespace Go.Proofs
open Go.VM
def Rf.round (x : Int) (n : Nat) : Int := bits .or .u32 (shiftI .shr .u32 x (n : Int)) (shiftI .shl .u32 x ((32 - n : Nat) : Int))
def Rf.s0 (x : Int) : Int := bits .xor .u32 (bits .xor .u32 (Rf.round x 7) (Rf.round x 18)) (Int.fdiv x (2 ^ 3))
def Rf.s1 (x : Int) : Int := bits .xor .u32 (bits .xor .u32 (Rf.round x 17) (Rf.round x 19)) (Int.fdiv x (2 ^ 10))
def Rf.w (b : List Int) : Nat → Int
  | t => if t < 16 then IntKind.wrap .u32 ((tv (subI b (4 * t) 4) : Nat) : Int)
    else if h : 16 ≤ t then IntKind.wrap .u32 ((IntKind.wrap .u32 ((IntKind.wrap .u32 (Rf.w b (t - 16) + Rf.w b (t - 7))) + Rf.s0 (Rf.w b (t - 15)))) + Rf.s1 (Rf.w b (t - 2)))
    else 0
termination_by t => t
def Rf.step (b : List Int) (t : Nat) (l : List Int) : List Int :=
  let a := List.getD l 0 0
  let e := List.getD l 4 0
  let t1 := IntKind.wrap .u32 ((IntKind.wrap .u32 ((IntKind.wrap .u32 ((IntKind.wrap .u32 ((List.getD l 7 0) + (bits .xor .u32 (bits .xor .u32 (Rf.round e 6) (Rf.round e 11)) (Rf.round e 25)))) + (bits .xor .u32 (bits .and .u32 e (List.getD l 5 0)) (bits .and .u32 (bits .xor .u32 4294967295 e) (List.getD l 6 0))))) + (List.getD Sh.consts t 0))) + Rf.w b t)
  [IntKind.wrap .u32 (t1 + (IntKind.wrap .u32 ((bits .xor .u32 (bits .xor .u32 (Rf.round a 2) (Rf.round a 13)) (Rf.round a 22)) + (bits .or .u32 (bits .or .u32 (bits .and .u32 a (List.getD l 1 0)) (bits .and .u32 a (List.getD l 2 0))) (bits .and .u32 (List.getD l 1 0) (List.getD l 2 0)))))), a, List.getD l 1 0, List.getD l 2 0, IntKind.wrap .u32 (List.getD l 3 0 + t1), e, List.getD l 5 0, List.getD l 6 0]
def Rf.rounds (s b : List Int) : Nat → List Int
  | 0 => s
  | t + 1 => Rf.step b t (Rf.rounds s b t)
end Go.Proofs

namespace Go.Proofs
open Go.VM
end Go.Proofs

namespace Go.Proofs
open Go.VM
end Go.Proofs

namespace Go.Proofs
open Go.VM
end Go.Proofs

namespace Go.Proofs
open Go.VM
def Rf.tab (b : List Int) (i : Nat) : List Int := (List.range 64).map fun k => if k < i then Rf.w b k else 0
end Go.Proofs

namespace Go.Proofs
open Go.VM
end Go.Proofs

namespace Go.Proofs
open Go.VM
end Go.Proofs

namespace Go.Proofs
open Go.VM
end Go.Proofs

namespace Go.Proofs
open Go.VM
abbrev f15v1.Ty0 := Nat × Int × Int × Nat × List Int × List Ent × List Int × List Int × List Int × Int × Int × List Int × Int × Int × List Int × List Int
abbrev f15v1.Ty1 := Nat × List Int × List Ent × List Int × List Int × List Int × Int × Int × List Int × Int × Int × List Int × List Int
abbrev f15v1.Ty2 := Nat × Nat × Nat × List Int × List Ent
abbrev f15v1.Ty3 := List Int × Nat × List Int × List Ent
noncomputable def f15v1.c : Code := bodyOf Try.f15
def f15v1.s0t (K : Nat) (rec : f15v1.Ty0 → Option (f15v1.Ty1)) (t29 : Nat) (t30 : Int) (t31 : Int) (b0_0 : Nat) (b0_1 : List Int) (b2 : List Ent) (b5 : List Int) (b6 : List Int) (b7_0 : List Int) (b7_1 : Int) (b7_2 : Int) (b8_0 : List Int) (b8_1 : Int) (b8_2 : Int) (b9 : List Int) (b10 : List Int) : Option (f15v1.Ty1) :=
  bif (decide (t31 < t30)) then
    bif decide (0 ≤ t31 ∧ t31 < ((t29 : Nat) : Int)) then
      let v11 := 0 + (Int.toNat t31)
      bif Nat.blt v11 (List.length b2) then
        let v12 := (entAt b2 v11).1
        bif ((Nat.ble (0 + v12) ((entAt b2 v11).1) && true) && true) then
          (f50.F K (v12, b7_0, b7_1, b7_2, v12, (subI ((entAt b2 v11).2.2) 0 v12), b9)).bind fun y15 =>
          rec (t29, t30, (IntKind.wrap .i64 (t31 + 1)), b0_0, b0_1, b2, b5, b6, y15.2.1, y15.2.2.1, y15.2.2.2.1, b8_0, b8_1, b8_2, y15.2.2.2.2.2.2, b10)
        else
          none
      else
        none
    else
      none
  else
    some (b0_0, b0_1, b2, b5, b6, b7_0, b7_1, b7_2, b8_0, b8_1, b8_2, b9, b10)
def f15v1.s0 (K : Nat) (rec : f15v1.Ty0 → Option (f15v1.Ty1)) (x : f15v1.Ty0) : Option (f15v1.Ty1) := f15v1.s0t K rec x.1 x.2.1 x.2.2.1 x.2.2.2.1 x.2.2.2.2.1 x.2.2.2.2.2.1 x.2.2.2.2.2.2.1 x.2.2.2.2.2.2.2.1 x.2.2.2.2.2.2.2.2.1 x.2.2.2.2.2.2.2.2.2.1 x.2.2.2.2.2.2.2.2.2.2.1 x.2.2.2.2.2.2.2.2.2.2.2.1 x.2.2.2.2.2.2.2.2.2.2.2.2.1 x.2.2.2.2.2.2.2.2.2.2.2.2.2.1 x.2.2.2.2.2.2.2.2.2.2.2.2.2.2.1 x.2.2.2.2.2.2.2.2.2.2.2.2.2.2.2
noncomputable def f15v1.s0.b : Code := (findLoop 0 f15v1.c).getD .skip
def f15v1.s0.h : Hint := { lv := [4, 7, 8, 9, 29, 30, 31] }
def f15v1.s0.ho : Hint := { lv := [4, 7, 8, 9] }
def f15v1.s0.shp (x : f15v1.Ty0) : VS := ⟨[(4, .ptr 5 0), (7, .fn 48 [.ptr 6 0]), (8, .ptr 7 0), (9, .ptr 8 0), (29, .vw true 2 0 x.1 3), (30, .int .i64 x.2.1), (31, .int .i64 x.2.2.1)], [(0, ([.ints .u8 x.2.2.2.1 x.2.2.2.2.1], 0, .ro)), (2, ([], 0, .rr false 4 x.2.2.2.2.2.1)), (5, ([.ints .u8 32 x.2.2.2.2.2.2.1], 29, .norm)), (6, ([.ints .u8 64 x.2.2.2.2.2.2.2.1], 75, .norm)), (7, ([.ptr 9 0, .ints .u8 64 x.2.2.2.2.2.2.2.2.1, .int .i64 x.2.2.2.2.2.2.2.2.2.1, .int .u64 x.2.2.2.2.2.2.2.2.2.2.1], 117, .norm)), (8, ([.ptr 10 0, .ints .u8 64 x.2.2.2.2.2.2.2.2.2.2.2.1, .int .i64 x.2.2.2.2.2.2.2.2.2.2.2.2.1, .int .u64 x.2.2.2.2.2.2.2.2.2.2.2.2.2.1], 117, .norm)), (9, ([.ints .u32 8 x.2.2.2.2.2.2.2.2.2.2.2.2.2.2.1], 113, .norm)), (10, ([.ints .u32 8 x.2.2.2.2.2.2.2.2.2.2.2.2.2.2.2], 113, .norm))], 11⟩
def f15v1.s0.inX : VS → Option (f15v1.Ty0)
  | ⟨[(4, .ptr 5 0), (7, .fn 48 [.ptr 6 0]), (8, .ptr 7 0), (9, .ptr 8 0), (29, .vw true 2 0 t29 3), (30, .int .i64 t30), (31, .int .i64 t31)], [(0, ([.ints .u8 b0_0 b0_1], 0, .ro)), (2, ([], 0, .rr false 4 b2)), (5, ([.ints .u8 32 b5], 29, .norm)), (6, ([.ints .u8 64 b6], 75, .norm)), (7, ([.ptr 9 0, .ints .u8 64 b7_0, .int .i64 b7_1, .int .u64 b7_2], 117, .norm)), (8, ([.ptr 10 0, .ints .u8 64 b8_0, .int .i64 b8_1, .int .u64 b8_2], 117, .norm)), (9, ([.ints .u32 8 b9], 113, .norm)), (10, ([.ints .u32 8 b10], 113, .norm))], 11⟩ => some (t29, t30, t31, b0_0, b0_1, b2, b5, b6, b7_0, b7_1, b7_2, b8_0, b8_1, b8_2, b9, b10)
  | _ => none
def f15v1.s0.o0 (y : f15v1.Ty1) : VS := ⟨[(4, .ptr 5 0), (7, .fn 48 [.ptr 6 0]), (8, .ptr 7 0), (9, .ptr 8 0)], [(0, ([.ints .u8 y.1 y.2.1], 0, .ro)), (2, ([], 0, .rr false 4 y.2.2.1)), (5, ([.ints .u8 32 y.2.2.2.1], 29, .norm)), (6, ([.ints .u8 64 y.2.2.2.2.1], 75, .norm)), (7, ([.ptr 9 0, .ints .u8 64 y.2.2.2.2.2.1, .int .i64 y.2.2.2.2.2.2.1, .int .u64 y.2.2.2.2.2.2.2.1], 117, .norm)), (8, ([.ptr 10 0, .ints .u8 64 y.2.2.2.2.2.2.2.2.1, .int .i64 y.2.2.2.2.2.2.2.2.2.1, .int .u64 y.2.2.2.2.2.2.2.2.2.2.1], 117, .norm)), (9, ([.ints .u32 8 y.2.2.2.2.2.2.2.2.2.2.2.1], 113, .norm)), (10, ([.ints .u32 8 y.2.2.2.2.2.2.2.2.2.2.2.2], 113, .norm))], 11⟩
def f15v1.s0.des : ∀ α : Type, (f15v1.Ty1) → (Ex → VS → Option α) → Option α := (des1 (.exit 0) f15v1.s0.o0)
def f15v1.s0.out : f15v1.Ty1 → Ex × VS := (fun y => (.exit 0, f15v1.s0.o0 y))
theorem f15v1.s0.desOK : ∀ α y (k : Ex → VS → Option α), f15v1.s0.des α y k = k (f15v1.s0.out y).1 (f15v1.s0.out y).2 := (fun _ _ _ => rfl)
def f15v1.s0.inY : Ex → VS → Option (f15v1.Ty1)
  | .exit 0, ⟨[(4, .ptr 5 0), (7, .fn 48 [.ptr 6 0]), (8, .ptr 7 0), (9, .ptr 8 0)], [(0, ([.ints .u8 b0_0 b0_1], 0, .ro)), (2, ([], 0, .rr false 4 b2)), (5, ([.ints .u8 32 b5], 29, .norm)), (6, ([.ints .u8 64 b6], 75, .norm)), (7, ([.ptr 9 0, .ints .u8 64 b7_0, .int .i64 b7_1, .int .u64 b7_2], 117, .norm)), (8, ([.ptr 10 0, .ints .u8 64 b8_0, .int .i64 b8_1, .int .u64 b8_2], 117, .norm)), (9, ([.ints .u32 8 b9], 113, .norm)), (10, ([.ints .u32 8 b10], 113, .norm))], 11⟩ => some (b0_0, b0_1, b2, b5, b6, b7_0, b7_1, b7_2, b8_0, b8_1, b8_2, b9, b10)
  | _, _ => none
def f15v1.lp (K : Nat) : Nat → Option (Hint × Summ) := tabLp [(0, f15v1.s0.h, summOf (iter (f15v1.s0 K) K) f15v1.s0.inX f15v1.s0.des)]
noncomputable def f15v1.tab (K : Nat) : List (Nat × Entry) := [(30, (viewE [(0, .u8)] (f30.E K))), (49, (f49.E K)), (48, (f48.E K)), (50, (viewE [(1, .u8)] (f50.E K))), (51, (f51.E K))]
theorem f15v1.tabOK (K : Nat) : SpecOK Try.prog (tabSp (f15v1.tab K)) := tab_ok ((tab_cons (view_ok (f30.ok K)) (tab_cons (f49.ok K) (tab_cons (f48.ok K) (tab_cons (view_ok (f50.ok K)) (tab_cons (f51.ok K) tab_nil))))))
theorem f15v1.s0.eq (K : Nat) (rec : f15v1.Ty0 → Option (f15v1.Ty1)) (x : f15v1.Ty0) : f15v1.s0 K rec x = roundL (getA tys) (tabSp (f15v1.tab K)) 50 5 (f15v1.lp K) 400 f15v1.s0.b f15v1.s0.h f15v1.s0.ho f15v1.s0.shp f15v1.s0.inX f15v1.s0.inY rec x := by kernel_rfl
theorem f15v1.s0.lok (K : Nat) : LoopsOK Try.prog 50 5 (f15v1.lp K) f15v1.s0.b := loops_ok (by
  have h : loopsIn (f15v1.lp K) f15v1.s0.b = [] := by kernel_rfl
  rw [h]; simp)
theorem f15v1.s0.ok (K : Nat) : SummOK Try.prog 50 5 (summOf (iter (f15v1.s0 K) K) f15v1.s0.inX f15v1.s0.des) f15v1.s0.b :=
  loop_ok mix tys_ok (f15v1.tabOK K) (h := f15v1.s0.h) (ho := f15v1.s0.ho) (shp := f15v1.s0.shp) (inX := f15v1.s0.inX) (des := f15v1.s0.des) (out := f15v1.s0.out) (inY := f15v1.s0.inY) (fuel := 400)
    (by intro st x h; unfold f15v1.s0.inX at h; split at h <;> simp at h; subst h; rfl)
    (by intro e st y h; unfold f15v1.s0.inY at h; split at h <;> simp at h <;> subst h <;> rfl)
    f15v1.s0.desOK (f15v1.s0.lok K) (f15v1.s0 K) (f15v1.s0.eq K) K
theorem f15v1.loops (K : Nat) : LoopsOK Try.prog 50 5 (f15v1.lp K) f15v1.c := loops_ok (by
  have h : loopsIn (f15v1.lp K) f15v1.c = [(0, f15v1.s0.b)] := by kernel_rfl
  rw [h]
  intro p hp
  simp only [List.mem_cons, List.not_mem_nil, or_false] at hp
  rcases hp with rfl
  · exact ⟨_, rfl, (f15v1.s0.ok K)⟩)
def f15v1.T (K : Nat) (a0 : Nat) (a1 : Nat) (m0_0 : Nat) (m0_1 : List Int) (m2 : List Ent) : Option (f15v1.Ty3) :=
  bif (decide (((a0 : Nat) : Int) > 64)) then
    bif ((Nat.ble (0 + a0) m0_0 && true) && true) then
      (f30.F K (a0, a0, (subI m0_1 0 a0))).bind fun y3 =>
      (f49.F K ()).bind fun y5 =>
      (f49.F K ()).bind fun y6 =>
      (f48.F K (54, (spl [0, 0, 0, 0, 0, 0, 0, 0, 0, 0, 0, 0, 0, 0, 0, 0, 0, 0, 0, 0, 0, 0, 0, 0, 0, 0, 0, 0, 0, 0, 0, 0, 0, 0, 0, 0, 0, 0, 0, 0, 0, 0, 0, 0, 0, 0, 0, 0, 0, 0, 0, 0, 0, 0, 0, 0, 0, 0, 0, 0, 0, 0, 0, 0] 0 32 (subI y3.1 0 32)))).bind fun y7 =>
      (f50.F K (64, y5.1, y5.2.1, y5.2.2.1, 64, (subI y7.2 0 64), y5.2.2.2)).bind fun y8 =>
      (iter (f15v1.s0 K) K (a1, ((a1 : Nat) : Int), 0, m0_0, m0_1, m2, [0, 0, 0, 0, 0, 0, 0, 0, 0, 0, 0, 0, 0, 0, 0, 0, 0, 0, 0, 0, 0, 0, 0, 0, 0, 0, 0, 0, 0, 0, 0, 0], y7.1, y8.2.1, y8.2.2.1, y8.2.2.2.1, y6.1, y6.2.1, y6.2.2.1, y8.2.2.2.2.2.2, y6.2.2.2)).bind fun y17 =>
      (f51.F K (y17.2.2.2.2.2.1, y17.2.2.2.2.2.2.1, y17.2.2.2.2.2.2.2.1, y17.2.2.2.2.2.2.2.2.2.2.2.1)).bind fun y18 =>
      (f48.F K (92, y17.2.2.2.2.1)).bind fun y19 =>
      (f50.F K (64, y17.2.2.2.2.2.2.2.2.1, y17.2.2.2.2.2.2.2.2.2.1, y17.2.2.2.2.2.2.2.2.2.2.1, 64, (subI y19.2 0 64), y17.2.2.2.2.2.2.2.2.2.2.2.2)).bind fun y20 =>
      (f50.F K (32, y20.2.1, y20.2.2.1, y20.2.2.2.1, 32, (subI y18.1 0 32), y20.2.2.2.2.2.2)).bind fun y21 =>
      (f51.F K (y21.2.1, y21.2.2.1, y21.2.2.2.1, y21.2.2.2.2.2.2)).bind fun y22 =>
      some (y22.1, y17.1, y17.2.1, y17.2.2.1)
    else
      none
  else
    bif ((Nat.ble (0 + a0) m0_0 && true) && (Nat.beq a0 a0)) then
      (f49.F K ()).bind fun y25 =>
      (f49.F K ()).bind fun y26 =>
      (f48.F K (54, (spl [0, 0, 0, 0, 0, 0, 0, 0, 0, 0, 0, 0, 0, 0, 0, 0, 0, 0, 0, 0, 0, 0, 0, 0, 0, 0, 0, 0, 0, 0, 0, 0, 0, 0, 0, 0, 0, 0, 0, 0, 0, 0, 0, 0, 0, 0, 0, 0, 0, 0, 0, 0, 0, 0, 0, 0, 0, 0, 0, 0, 0, 0, 0, 0] 0 (Nat.min a0 64) (subI m0_1 0 a0)))).bind fun y27 =>
      (f50.F K (64, y25.1, y25.2.1, y25.2.2.1, 64, (subI y27.2 0 64), y25.2.2.2)).bind fun y28 =>
      (iter (f15v1.s0 K) K (a1, ((a1 : Nat) : Int), 0, m0_0, m0_1, m2, [0, 0, 0, 0, 0, 0, 0, 0, 0, 0, 0, 0, 0, 0, 0, 0, 0, 0, 0, 0, 0, 0, 0, 0, 0, 0, 0, 0, 0, 0, 0, 0], y27.1, y28.2.1, y28.2.2.1, y28.2.2.2.1, y26.1, y26.2.1, y26.2.2.1, y28.2.2.2.2.2.2, y26.2.2.2)).bind fun y30 =>
      (f51.F K (y30.2.2.2.2.2.1, y30.2.2.2.2.2.2.1, y30.2.2.2.2.2.2.2.1, y30.2.2.2.2.2.2.2.2.2.2.2.1)).bind fun y31 =>
      (f48.F K (92, y30.2.2.2.2.1)).bind fun y32 =>
      (f50.F K (64, y30.2.2.2.2.2.2.2.2.1, y30.2.2.2.2.2.2.2.2.2.1, y30.2.2.2.2.2.2.2.2.2.2.1, 64, (subI y32.2 0 64), y30.2.2.2.2.2.2.2.2.2.2.2.2)).bind fun y33 =>
      (f50.F K (32, y33.2.1, y33.2.2.1, y33.2.2.2.1, 32, (subI y31.1 0 32), y33.2.2.2.2.2.2)).bind fun y34 =>
      (f51.F K (y34.2.1, y34.2.2.1, y34.2.2.2.1, y34.2.2.2.2.2.2)).bind fun y35 =>
      some (y35.1, y30.1, y30.2.1, y30.2.2.1)
    else
      none
def f15v1.F (K : Nat) (x : f15v1.Ty2) : Option (f15v1.Ty3) := f15v1.T K x.1 x.2.1 x.2.2.1 x.2.2.2.1 x.2.2.2.2
def f15v1.av (x : f15v1.Ty2) : List VV := [.vw true 0 0 x.1 1, .vw true 2 0 x.2.1 3]
def f15v1.bl (x : f15v1.Ty2) : List (Nat × Blk) := [(0, ([.ints .u8 x.2.2.1 x.2.2.2.1], 0, .ro)), (2, ([], 0, .rr false 4 x.2.2.2.2))]
def f15v1.inA : VS → Option (f15v1.Ty2)
  | ⟨[(0, .vw true 0 0 a0 1), (1, .vw true 2 0 a1 3)], [(0, ([.ints .u8 m0_0 m0_1], 0, .ro)), (2, ([], 0, .rr false 4 m2))], 5⟩ => some (a0, a1, m0_0, m0_1, m2)
  | _ => none
def f15v1.o0 (y : f15v1.Ty3) : VS := ⟨[(0, .agg [.ints .u8 32 y.1])], [(0, ([.ints .u8 y.2.1 y.2.2.1], 0, .ro)), (2, ([], 0, .rr false 4 y.2.2.2))], 5⟩
def f15v1.des : ∀ α : Type, (f15v1.Ty3) → (VS → Option α) → Option α := (dv1 f15v1.o0)
def f15v1.out : f15v1.Ty3 → VS := f15v1.o0
def f15v1.inR : VS → Option (f15v1.Ty3)
  | ⟨[(0, .agg [.ints .u8 32 y])], [(0, ([.ints .u8 z0_0 z0_1], 0, .ro)), (2, ([], 0, .rr false 4 z2))], 5⟩ => some (y, z0_0, z0_1, z2)
  | _ => none
noncomputable def f15v1.E (K : Nat) : Entry := genE 5 f15v1.inA (f15v1.F K) f15v1.des
theorem f15v1.eq (K : Nat) (x : f15v1.Ty2) : f15v1.F K x = xrun (getA tys) (tabSp (f15v1.tab K)) Try.f15.ntmps 5 (f15v1.lp K) 400 f15v1.c ⟨initL 0 (f15v1.av x), f15v1.bl x, 5⟩ (contF (getA tys) 5 Try.f15.results.toList f15v1.inR) := by kernel_rfl
theorem f15v1.ok (K : Nat) : EntryOK Try.prog 15 (f15v1.E K) :=
  gen_ok mix tys_ok (f15v1.tabOK K) Try.func15 (by kernel_rfl : Try.f15.body = some f15v1.c) (by kernel_rfl) (f15v1.loops K) (av := f15v1.av) (bl := f15v1.bl) (out := f15v1.out) (fuel := 400)
    (by intro s x h; unfold f15v1.inA at h; split at h <;> simp at h; subst h; rfl) (fun _ => Nat.le_of_ble_eq_true rfl)
    (by intro s y h; unfold f15v1.inR at h; split at h <;> simp at h <;> subst h <;> rfl) (fun _ _ _ => rfl) (f15v1.eq K)
end Go.Proofs

namespace Go.Proofs
open Go.VM
abbrev f47.Ty0 := ByteArray × Int × List Int
noncomputable def f47.c : Code := bodyOf Try.f47
def f47.k0 : ByteArray := ByteArray.mk #[48, 49, 50, 51, 52, 53, 54, 55, 56, 57, 97, 98, 99, 100, 101, 102]
def f47.s0t (_K : Nat) (rec : f47.Ty0 → Option (ByteArray)) (t3 : ByteArray) (t4 : Int) (b0 : List Int) : Option (ByteArray) :=
  bif (decide (t4 < 32)) then
    bif decide (0 ≤ t4 ∧ t4 < 32) then
      let v4 := Int.fdiv (List.getD b0 (Int.toNat t4) 0) (2 ^ 4)
      bif decide (0 ≤ t4 ∧ t4 < 32) then
        let v8 := IntKind.wrap .u8 ((Int.fdiv (List.getD b0 (Int.toNat t4) 0) (2 ^ 4)) + 1)
        bif (decide (0 ≤ v8 ∧ v8 ≤ ((ByteArray.size f47.k0 : Nat) : Int)) && (decide (0 ≤ v4 ∧ v4 ≤ ((Int.toNat v8 : Nat) : Int)))) then
          bif fitB (ByteArray.size t3 + ByteArray.size (ByteArray.extract f47.k0 (Int.toNat v4) (Int.toNat v8))) then
            bif decide (0 ≤ t4 ∧ t4 < 32) then
              let v11 := bits .and .u8 (List.getD b0 (Int.toNat t4) 0) 15
              bif decide (0 ≤ t4 ∧ t4 < 32) then
                let v15 := IntKind.wrap .u8 ((bits .and .u8 (List.getD b0 (Int.toNat t4) 0) 15) + 1)
                bif (decide (0 ≤ v15 ∧ v15 ≤ ((ByteArray.size f47.k0 : Nat) : Int)) && (decide (0 ≤ v11 ∧ v11 ≤ ((Int.toNat v15 : Nat) : Int)))) then
                  bif fitB (ByteArray.size (t3 ++ (ByteArray.extract f47.k0 (Int.toNat v4) (Int.toNat v8))) + ByteArray.size (ByteArray.extract f47.k0 (Int.toNat v11) (Int.toNat v15))) then
                    rec (((t3 ++ (ByteArray.extract f47.k0 (Int.toNat v4) (Int.toNat v8))) ++ (ByteArray.extract f47.k0 (Int.toNat v11) (Int.toNat v15))), (IntKind.wrap .i64 (t4 + 1)), b0)
                  else
                    none
                else
                  none
              else
                none
            else
              none
          else
            none
        else
          none
      else
        none
    else
      none
  else
    some t3
def f47.s0 (K : Nat) (rec : f47.Ty0 → Option (ByteArray)) (x : f47.Ty0) : Option (ByteArray) := f47.s0t K rec x.1 x.2.1 x.2.2
noncomputable def f47.s0.b : Code := (findLoop 0 f47.c).getD .skip
def f47.s0.h : Hint := { lv := [1, 3, 4] }
def f47.s0.ho : Hint := { lv := [3] }
def f47.s0.shp (x : f47.Ty0) : VS := ⟨[(1, .ptr 0 0), (3, .str x.1), (4, .int .i64 x.2.1)], [(0, ([.ints .u8 32 x.2.2], 29, .norm))], 1⟩
def f47.s0.inX : VS → Option (f47.Ty0)
  | ⟨[(1, .ptr 0 0), (3, .str t3), (4, .int .i64 t4)], [(0, ([.ints .u8 32 b0], 29, .norm))], 1⟩ => some (t3, t4, b0)
  | _ => none
def f47.s0.o0 (y : ByteArray) : VS := ⟨[(3, .str y)], [], 0⟩
def f47.s0.des : ∀ α : Type, ByteArray → (Ex → VS → Option α) → Option α := (des1 (.exit 0) f47.s0.o0)
def f47.s0.out : ByteArray → Ex × VS := (fun y => (.exit 0, f47.s0.o0 y))
theorem f47.s0.desOK : ∀ α y (k : Ex → VS → Option α), f47.s0.des α y k = k (f47.s0.out y).1 (f47.s0.out y).2 := (fun _ _ _ => rfl)
def f47.s0.inY : Ex → VS → Option (ByteArray)
  | .exit 0, ⟨[(3, .str t3)], [], 0⟩ => some t3
  | _, _ => none
def f47.lp (K : Nat) : Nat → Option (Hint × Summ) := tabLp [(0, f47.s0.h, summOf (iter (f47.s0 K) K) f47.s0.inX f47.s0.des)]
noncomputable def f47.tab (_K : Nat) : List (Nat × Entry) := []
theorem f47.tabOK (K : Nat) : SpecOK Try.prog (tabSp (f47.tab K)) := tab_ok ( tab_nil)
theorem f47.s0.eq (K : Nat) (rec : f47.Ty0 → Option (ByteArray)) (x : f47.Ty0) : f47.s0 K rec x = roundL (getA tys) (tabSp (f47.tab K)) 33 0 (f47.lp K) 400 f47.s0.b f47.s0.h f47.s0.ho f47.s0.shp f47.s0.inX f47.s0.inY rec x := by kernel_rfl
theorem f47.s0.lok (K : Nat) : LoopsOK Try.prog 33 0 (f47.lp K) f47.s0.b := loops_ok (by
  have h : loopsIn (f47.lp K) f47.s0.b = [] := by kernel_rfl
  rw [h]; simp)
theorem f47.s0.ok (K : Nat) : SummOK Try.prog 33 0 (summOf (iter (f47.s0 K) K) f47.s0.inX f47.s0.des) f47.s0.b :=
  loop_ok mix tys_ok (f47.tabOK K) (h := f47.s0.h) (ho := f47.s0.ho) (shp := f47.s0.shp) (inX := f47.s0.inX) (des := f47.s0.des) (out := f47.s0.out) (inY := f47.s0.inY) (fuel := 400)
    (by intro st x h; unfold f47.s0.inX at h; split at h <;> simp at h; subst h; rfl)
    (by intro e st y h; unfold f47.s0.inY at h; split at h <;> simp at h <;> subst h <;> rfl)
    f47.s0.desOK (f47.s0.lok K) (f47.s0 K) (f47.s0.eq K) K
theorem f47.loops (K : Nat) : LoopsOK Try.prog 33 0 (f47.lp K) f47.c := loops_ok (by
  have h : loopsIn (f47.lp K) f47.c = [(0, f47.s0.b)] := by kernel_rfl
  rw [h]
  intro p hp
  simp only [List.mem_cons, List.not_mem_nil, or_false] at hp
  rcases hp with rfl
  · exact ⟨_, rfl, (f47.s0.ok K)⟩)
def f47.T (K : Nat) (a0 : List Int) : Option (ByteArray) :=
  (iter (f47.s0 K) K (ByteArray.empty, 0, a0)).bind fun y17 =>
  some y17
def f47.F (K : Nat) (x : List Int) : Option (ByteArray) := f47.T K x
def f47.av (x : List Int) : List VV := [.agg [.ints .u8 32 x]]
def f47.bl (_x : List Int) : List (Nat × Blk) := []
def f47.inA : VS → Option (List Int)
  | ⟨[(0, .agg [.ints .u8 32 a0])], [], 0⟩ => some a0
  | _ => none
def f47.o0 (y : ByteArray) : VS := ⟨[(0, .str y)], [], 0⟩
def f47.des : ∀ α : Type, ByteArray → (VS → Option α) → Option α := (dv1 f47.o0)
def f47.out : ByteArray → VS := f47.o0
def f47.inR : VS → Option (ByteArray)
  | ⟨[(0, .str y)], [], 0⟩ => some y
  | _ => none
noncomputable def f47.E (K : Nat) : Entry := genE 0 f47.inA (f47.F K) f47.des
theorem f47.eq (K : Nat) (x : List Int) : f47.F K x = xrun (getA tys) (tabSp (f47.tab K)) Try.f47.ntmps 0 (f47.lp K) 400 f47.c ⟨initL 0 (f47.av x), f47.bl x, 0⟩ (contF (getA tys) 0 Try.f47.results.toList f47.inR) := by kernel_rfl
theorem f47.ok (K : Nat) : EntryOK Try.prog 47 (f47.E K) :=
  gen_ok mix tys_ok (f47.tabOK K) Try.func47 (by kernel_rfl : Try.f47.body = some f47.c) (by kernel_rfl) (f47.loops K) (av := f47.av) (bl := f47.bl) (out := f47.out) (fuel := 400)
    (by intro s x h; unfold f47.inA at h; split at h <;> simp at h; subst h; rfl) (fun _ => Nat.le_of_ble_eq_true rfl)
    (by intro s y h; unfold f47.inR at h; split at h <;> simp at h <;> subst h <;> rfl) (fun _ _ _ => rfl) (f47.eq K)
end Go.Proofs

namespace Go.Proofs
open Go.VM
def f12.k0 : ByteArray := ByteArray.mk #[53, 98, 100, 99, 99, 49, 52, 54, 98, 102, 54, 48, 55, 53, 52, 101, 54, 97, 48, 52, 50, 52, 50, 54, 48, 56, 57, 53, 55, 53, 99, 55, 53, 97, 48, 48, 51, 102, 48, 56, 57, 100, 50, 55, 51, 57, 56, 51, 57, 100, 101, 99, 53, 56, 98, 57, 54, 52, 101, 99, 51, 56, 52, 51]
def f12.T (K : Nat)  : Option (Bool) :=
  (f15v1.F K (4, 2, 4, [74, 101, 102, 101], ([(16, 16, [119, 104, 97, 116, 32, 100, 111, 32, 121, 97, 32, 119, 97, 110, 116, 32]), (12, 12, [102, 111, 114, 32, 110, 111, 116, 104, 105, 110, 103, 63])] : List Ent))).bind fun y1 =>
  (f47.F K y1.1).bind fun y2 =>
  bif (strEq y2 f12.k0) then
    (f19.F K (2, 2, 2, [97, 98], 2, [97, 98])).bind fun y4 =>
    bif y4.1 then
      (f19.F K (2, 1, 2, [97, 98], 1, [97])).bind fun y5 =>
      some (!y5.1)
    else
      some false
  else
    some false
def f12.F (K : Nat) (_x : Unit) : Option (Bool) := f12.T K
def f12.av (_x : Unit) : List VV := []
def f12.bl (_x : Unit) : List (Nat × Blk) := []
def f12.inA : VS → Option (Unit)
  | ⟨[], [], 0⟩ => some ()
  | _ => none
def f12.o0 (y : Bool) : VS := ⟨[(0, .bool y)], [], 0⟩
def f12.inR : VS → Option (Bool)
  | ⟨[(0, .bool y)], [], 0⟩ => some y
  | _ => none
noncomputable def f12.E (K : Nat) : Entry := genE 0 f12.inA (f12.F K) (dv1 f12.o0)
theorem f12.ok (K : Nat) : EntryOK Try.prog 12 (f12.E K) := gen_ok mix tys_ok (sp := tabSp [(15, (rwE 1 (viewE [(0, .u8)] (f15v1.E K)))), (47, (f47.E K)), (19, (viewE [(0, .u8), (1, .u8)] (f19.E K)))]) (tab_ok ((tab_cons (rw_ok (view_ok (f15v1.ok K))) (tab_cons (f47.ok K) (tab_cons (view_ok (f19.ok K)) tab_nil))))) Try.func12 (c := bodyOf Try.f12) (by kernel_rfl) (by kernel_rfl) (loops_none (lp := lpNone) (by kernel_rfl)) (av := f12.av) (bl := f12.bl) (inR := f12.inR) (out := f12.o0) (fuel := 400)
  (by intro s x h; unfold f12.inA at h; split at h <;> simp at h; rfl) (fun _ => Nat.le_of_ble_eq_true rfl)
  (by intro s y h; unfold f12.inR at h; split at h <;> simp at h <;> subst h <;> rfl) (fun _ _ _ => rfl) (fun _ => by kernel_rfl)
end Go.Proofs

namespace Go.Proofs
open Go.VM
theorem eqL_refl (n : Nat) (l : List Int) : eqL n l l = true := by simp [eqL]
set_option maxRecDepth 1000000 in
theorem f12.holds : f12.F 100000 () = some true := by decide +kernel
end Go.Proofs

namespace Go.Proofs
open Go.VM
end Go.Proofs

namespace Go.Proofs
open Go.VM
end Go.Proofs

namespace Go.Proofs
open Go.VM
end Go.Proofs

namespace Go.Proofs
open Go.VM
end Go.Proofs

namespace Go.Proofs
open Go.VM
end Go.Proofs

namespace Go.Proofs
open Go.VM
end Go.Proofs

namespace Go.Proofs
open Go.VM
def Rs.sh (e : Ent) : List Int := subI e.2.2 0 e.1
def Rs.ok (b : Nat) (ll : List Ent) : Prop := ∀ e ∈ ll, e.1 ≤ b ∧ octets (Rs.sh e)
def Rs.cat (ll : List Ent) : List Int := ll.flatMap Rs.sh
theorem Rs.sh_length (e : Ent) : (Rs.sh e).length = e.1 := subI_length _ _ _
theorem Rs.at_get {ll : List Ent} {i : Nat} (h : i < ll.length) : entAt ll i = ll[i] := by
  rw [entAt, List.getD_eq_getElem?_getD, List.getElem?_eq_getElem h]; rfl
theorem Rs.at_mem {ll : List Ent} {i : Nat} (h : i < ll.length) : entAt ll i ∈ ll := by
  rw [Rs.at_get h]; exact List.getElem_mem _
theorem Rs.take_next {ll : List Ent} {i : Nat} (h : i < ll.length) : ll.take (i + 1) = ll.take i ++ [entAt ll i] := by
  rw [List.take_add_one, List.getElem?_eq_getElem h, Rs.at_get h]; rfl
theorem Rs.cat_next {ll : List Ent} {i : Nat} (h : i < ll.length) : Rs.cat (ll.take (i + 1)) = Rs.cat (ll.take i) ++ Rs.sh (entAt ll i) := by
  rw [Rs.take_next h]; simp [Rs.cat]
theorem Rs.blt {a b : Nat} (h : a < b) : Nat.blt a b = true := by simpa [Nat.blt_eq] using h
theorem f15v1.parts (K N n : Nat) (k : List Int) (ll : List Ent) (hN : ll.length = N) {b : Nat} (ho : Rs.ok b ll) (hb : b ≤ 1000000000) (hNb : N ≤ 1000000) (hK : N < K) (hK2 : 64 + b < K) (z32 kb m b0 s0 : List Int) (h0 : Int) (R : Sh.Rep m b0 h0 s0) (b8 : List Int) (h8 l8 : Int) (s8 : List Int) :
    ∃ b' h' s', iter (f15v1.s0 K) K (N, ((N : Nat) : Int), 0, n, k, ll, z32, kb, b0, h0, ((m.length % 18446744073709551616 : Nat) : Int), b8, h8, l8, s0, s8) = some (n, k, ll, z32, kb, b', h', (((m ++ Rs.cat ll).length % 18446744073709551616 : Nat) : Int), b8, h8, l8, s', s8) ∧ Sh.Rep (m ++ Rs.cat ll) b' h' s' := by
  obtain ⟨y, ⟨b', h', s', hy, R'⟩, hI⟩ := iter_inv (stp := f15v1.s0 K) (fun j x => ∃ i b' h' s', i ≤ N ∧ j = N - i ∧ Sh.Rep (m ++ Rs.cat (ll.take i)) b' h' s' ∧ x = (N, ((N : Nat) : Int), (i : Int), n, k, ll, z32, kb, b', h', (((m ++ Rs.cat (ll.take i)).length % 18446744073709551616 : Nat) : Int), b8, h8, l8, s', s8))
    (fun y => ∃ b' h' s', y = (n, k, ll, z32, kb, b', h', (((m ++ Rs.cat ll).length % 18446744073709551616 : Nat) : Int), b8, h8, l8, s', s8) ∧ Sh.Rep (m ++ Rs.cat ll) b' h' s') (by
    rintro j x ⟨i, b1, h1, s1, hi, rfl, R1, rfl⟩
    by_cases h : i < N
    · right
      have hi' : i < ll.length := by omega
      have hm := Rs.at_mem hi'
      obtain ⟨hb1, ho1⟩ := ho _ hm
      obtain ⟨b2, h2, s2, e2, R2⟩ := f50.spec K _ (entAt ll i).1 (Rs.sh (entAt ll i)) (Rs.sh_length _) ho1 (by omega) _ _ _ R1 (by omega)
      rw [List.append_assoc, ← Rs.cat_next hi'] at e2 R2
      refine ⟨_, N - (i + 1), by omega, ⟨i + 1, b2, h2, s2, by omega, rfl, R2, rfl⟩, fun rec => ?_⟩
      simp only [f15v1.s0, f15v1.s0t]
      rw [decide_eq_true (show (i : Int) < ((N : Nat) : Int) by omega), cond_t, decide_eq_true (show (0 : Int) ≤ (i : Int) ∧ (i : Int) < ((N : Nat) : Int) by omega), cond_t, Int.toNat_natCast, Nat.zero_add, Rs.blt hi', cond_t, Nat.zero_add, ble_true (Nat.le_refl _), Bool.and_self, Bool.and_self, cond_t]
      rw [show f50.F K ((entAt ll i).1, b1, h1, (((m ++ Rs.cat (ll.take i)).length % 18446744073709551616 : Nat) : Int), (entAt ll i).1, subI (entAt ll i).2.2 0 (entAt ll i).1, s1) = _ from e2, bind_s]
      simp only []
      rw [wrap_i _ (by omega) (by omega)]
      rfl
    · left
      have hiN : i = N := by omega
      subst hiN
      rw [List.take_of_length_le (show ll.length ≤ i by omega)] at R1 ⊢
      refine ⟨_, ⟨b1, h1, s1, rfl, R1⟩, fun rec => ?_⟩
      simp only [f15v1.s0, f15v1.s0t]
      rw [decide_eq_false (show ¬ (i : Int) < ((i : Nat) : Int) by omega), cond_f]) N _ ⟨0, b0, h0, s0, Nat.zero_le _, rfl, by simpa [Rs.cat] using R, rfl⟩ K hK
  refine ⟨b', h', s', ?_, R'⟩
  rw [← hy, ← hI]
  simp [Rs.cat]
end Go.Proofs

namespace Go.Proofs
open Go.VM
end Go.Proofs

namespace Go.Proofs
open Go.VM
end Go.Proofs

namespace Go.Proofs
open Go.VM
theorem Rs.mac_run (K N n : Nat) (k : List Int) (ll : List Ent) (hN : ll.length = N) {b : Nat} (ho : Rs.ok b ll) (hb : b ≤ 1000000000) (hNb : N ≤ 1000000) (hK : 400 + N + b < K) (kb : List Int) (hk : kb.length = 64) :
    ((f48.F K (54, kb)).bind fun y7 =>
      (f50.F K (64, [0, 0, 0, 0, 0, 0, 0, 0, 0, 0, 0, 0, 0, 0, 0, 0, 0, 0, 0, 0, 0, 0, 0, 0, 0, 0, 0, 0, 0, 0, 0, 0, 0, 0, 0, 0, 0, 0, 0, 0, 0, 0, 0, 0, 0, 0, 0, 0, 0, 0, 0, 0, 0, 0, 0, 0, 0, 0, 0, 0, 0, 0, 0, 0], 0, 0, 64, (subI y7.2 0 64), Sh.init)).bind fun y8 =>
      (iter (f15v1.s0 K) K (N, ((N : Nat) : Int), 0, n, k, ll, [0, 0, 0, 0, 0, 0, 0, 0, 0, 0, 0, 0, 0, 0, 0, 0, 0, 0, 0, 0, 0, 0, 0, 0, 0, 0, 0, 0, 0, 0, 0, 0], y7.1, y8.2.1, y8.2.2.1, y8.2.2.2.1, [0, 0, 0, 0, 0, 0, 0, 0, 0, 0, 0, 0, 0, 0, 0, 0, 0, 0, 0, 0, 0, 0, 0, 0, 0, 0, 0, 0, 0, 0, 0, 0, 0, 0, 0, 0, 0, 0, 0, 0, 0, 0, 0, 0, 0, 0, 0, 0, 0, 0, 0, 0, 0, 0, 0, 0, 0, 0, 0, 0, 0, 0, 0, 0], 0, 0, y8.2.2.2.2.2.2, Sh.init)).bind fun y17 =>
      (f51.F K (y17.2.2.2.2.2.1, y17.2.2.2.2.2.2.1, y17.2.2.2.2.2.2.2.1, y17.2.2.2.2.2.2.2.2.2.2.2.1)).bind fun y18 =>
      (f48.F K (92, y17.2.2.2.2.1)).bind fun y19 =>
      (f50.F K (64, y17.2.2.2.2.2.2.2.2.1, y17.2.2.2.2.2.2.2.2.2.1, y17.2.2.2.2.2.2.2.2.2.2.1, 64, (subI y19.2 0 64), y17.2.2.2.2.2.2.2.2.2.2.2.2)).bind fun y20 =>
      (f50.F K (32, y20.2.1, y20.2.2.1, y20.2.2.2.1, 32, (subI y18.1 0 32), y20.2.2.2.2.2.2)).bind fun y21 =>
      (f51.F K (y21.2.1, y21.2.2.1, y21.2.2.2.1, y21.2.2.2.2.2.2)).bind fun y22 =>
      some (y22.1, y17.1, y17.2.1, y17.2.2.1)) = some (Sh.sum (Sh.xr 92 kb ++ Sh.sum (Sh.xr 54 kb ++ Rs.cat ll)), n, k, ll) := by
  rw [f48.spec K 54 kb hk (by omega), bind_s]
  simp only []
  rw [subI_self _ (show (Sh.xr 54 kb).length = 64 by rw [xr_length, hk])]
  obtain ⟨b1, h1, s1, e1, R1⟩ := f50.spec K [] 64 (Sh.xr 54 kb) (by rw [xr_length, hk]) (xr_octets _ _) (by omega) _ _ _ Sh.rep0 (by omega)
  rw [show f50.F K (64, [0, 0, 0, 0, 0, 0, 0, 0, 0, 0, 0, 0, 0, 0, 0, 0, 0, 0, 0, 0, 0, 0, 0, 0, 0, 0, 0, 0, 0, 0, 0, 0, 0, 0, 0, 0, 0, 0, 0, 0, 0, 0, 0, 0, 0, 0, 0, 0, 0, 0, 0, 0, 0, 0, 0, 0, 0, 0, 0, 0, 0, 0, 0, 0], 0, 0, 64, Sh.xr 54 kb, Sh.init) = _ from e1, bind_s]
  simp only []
  rw [List.nil_append] at R1 ⊢
  obtain ⟨b2, h2, s2, e2, R2⟩ := f15v1.parts K N n k ll hN ho hb hNb (by omega) (by omega) [0, 0, 0, 0, 0, 0, 0, 0, 0, 0, 0, 0, 0, 0, 0, 0, 0, 0, 0, 0, 0, 0, 0, 0, 0, 0, 0, 0, 0, 0, 0, 0] kb _ _ _ _ R1 [0, 0, 0, 0, 0, 0, 0, 0, 0, 0, 0, 0, 0, 0, 0, 0, 0, 0, 0, 0, 0, 0, 0, 0, 0, 0, 0, 0, 0, 0, 0, 0, 0, 0, 0, 0, 0, 0, 0, 0, 0, 0, 0, 0, 0, 0, 0, 0, 0, 0, 0, 0, 0, 0, 0, 0, 0, 0, 0, 0, 0, 0, 0, 0] 0 0 Sh.init
  rw [e2, bind_s]
  simp only []
  rw [f51.spec K _ _ _ _ R2 (by omega), bind_s]
  simp only []
  rw [f48.spec K 92 kb hk (by omega), bind_s]
  simp only []
  rw [subI_self _ (show (Sh.xr 92 kb).length = 64 by rw [xr_length, hk])]
  obtain ⟨b3, h3, s3, e3, R3⟩ := f50.spec K [] 64 (Sh.xr 92 kb) (by rw [xr_length, hk]) (xr_octets _ _) (by omega) _ _ _ Sh.rep0 (by omega)
  rw [show f50.F K (64, [0, 0, 0, 0, 0, 0, 0, 0, 0, 0, 0, 0, 0, 0, 0, 0, 0, 0, 0, 0, 0, 0, 0, 0, 0, 0, 0, 0, 0, 0, 0, 0, 0, 0, 0, 0, 0, 0, 0, 0, 0, 0, 0, 0, 0, 0, 0, 0, 0, 0, 0, 0, 0, 0, 0, 0, 0, 0, 0, 0, 0, 0, 0, 0], 0, 0, 64, Sh.xr 92 kb, Sh.init) = _ from e3, bind_s]
  simp only []
  rw [subI_self _ (sum_length _)]
  obtain ⟨b4, h4, s4, e4, R4⟩ := f50.spec K _ 32 _ (sum_length (Sh.xr 54 kb ++ Rs.cat ll)) (sum_octets _) (by omega) _ _ _ R3 (by omega)
  rw [e4, bind_s]
  simp only []
  rw [f51.spec K _ _ _ _ R4 (by omega), bind_s]
  simp only [List.nil_append]
theorem f15v1.spec (K N n : Nat) (k : List Int) (ll : List Ent) (hkn : k.length = n) (hko : octets k) (hn : n ≤ 1000000000) (hN : ll.length = N) {b : Nat} (ho : Rs.ok b ll) (hb : b ≤ 1000000000) (hNb : N ≤ 1000000) (hK : 400 + n + N + b < K) :
    f15v1.F K (n, N, n, k, ll) = some (Sh.mac k (Rs.cat ll), n, k, ll) := by
  have h49 : f49.F K () = some ([0, 0, 0, 0, 0, 0, 0, 0, 0, 0, 0, 0, 0, 0, 0, 0, 0, 0, 0, 0, 0, 0, 0, 0, 0, 0, 0, 0, 0, 0, 0, 0, 0, 0, 0, 0, 0, 0, 0, 0, 0, 0, 0, 0, 0, 0, 0, 0, 0, 0, 0, 0, 0, 0, 0, 0, 0, 0, 0, 0, 0, 0, 0, 0], 0, 0, Sh.init) := rfl
  simp only [f15v1.F, f15v1.T]
  by_cases h : 64 < n
  · rw [decide_eq_true (show ((n : Nat) : Int) > 64 by omega), cond_t, Nat.zero_add, ble_true (Nat.le_refl n), Bool.and_self, Bool.and_self, cond_t, subI_self _ hkn, f30.spec K n k hkn hko (by omega) (by omega), bind_s, h49, bind_s, bind_s]
    simp only []
    rw [subI_self _ (sum_length k), spl_key _ 32 (sum_length k) (by omega)]
    have := Rs.mac_run K N n k ll hN ho hb hNb (by omega) (padT (Sh.sum k) 64) (padT_length _ _)
    refine this.trans ?_
    rw [Sh.mac, Sh.key, if_pos (by omega)]
  · rw [decide_eq_false (show ¬ ((n : Nat) : Int) > 64 by omega), cond_f, Nat.zero_add, ble_true (Nat.le_refl n), show Nat.beq n n = true from Nat.beq_refl n, Bool.and_self, Bool.and_self, cond_t, subI_self _ hkn, h49, bind_s, bind_s]
    simp only []
    rw [show Nat.min n 64 = n from Nat.min_eq_left (by omega), spl_key _ n hkn (by omega)]
    have := Rs.mac_run K N n k ll hN ho hb hNb (by omega) (padT k 64) (padT_length _ _)
    refine this.trans ?_
    rw [Sh.mac, Sh.key, if_neg (by omega)]
end Go.Proofs

namespace Go.Proofs
open Go.VM
abbrev f4.Ty0 := Nat × Nat × Nat × Nat × Int × Int × Nat × List Int × Nat × List Int × Nat × List Int × List Ent
abbrev f4.Ty1 := Nat × Nat × Nat × Int × Nat × List Int × Nat × List Int × Nat × List Int × List Ent
abbrev f4.Ty2 := Nat × Nat × Nat × Nat × List Int × Nat × List Int × Nat × List Int
abbrev f4.Ty3 := Bool × Nat × List Int × Nat × List Int × Nat × List Int
noncomputable def f4.c : Code := bodyOf Try.f4
def f4.s0t (_K : Nat) (rec : f4.Ty0 → Option (f4.Ty1)) (t0 : Nat) (t1 : Nat) (t2 : Nat) (t7 : Nat) (t8 : Int) (t9 : Int) (b0_0 : Nat) (b0_1 : List Int) (b2_0 : Nat) (b2_1 : List Int) (b4_0 : Nat) (b4_1 : List Int) (b6 : List Ent) : Option (f4.Ty1) :=
  bif (decide (t9 < ((t2 : Nat) : Int))) then
    bif decide (0 ≤ t9 ∧ t9 < ((t2 : Nat) : Int)) then
      let v22 := 0 + (Int.toNat t9)
      bif Nat.blt v22 b4_0 then
        let v27 := IntKind.wrap .i64 ((IntKind.wrap .i64 (((t1 : Nat) : Int) - t8)) + 1)
        bif decide (v27 ≠ 0) then
          let v29 := IntKind.wrap .i64 (t8 + (Int.tmod (IntKind.wrap .i64 (List.getD b4_1 v22 0)) v27))
          bif (decide (0 ≤ v29 ∧ v29 ≤ ((t1 : Nat) : Int)) && (decide (0 ≤ t8 ∧ t8 ≤ ((Int.toNat v29 : Nat) : Int)))) then
            let v30 := 0 + (Int.toNat t8)
            let v31 := (Int.toNat v29) - (Int.toNat t8)
            bif (((((Nat.ble (v30 + v31) b2_0 && true) && (Nat.beq v31 v31)) && true) && (Nat.ble t7 (List.length b6))) && (fitB ((t7 + 1) * 24))) then
              rec (t0, t1, t2, (t7 + 1), v29, (IntKind.wrap .i64 (t9 + 1)), b0_0, b0_1, b2_0, b2_1, b4_0, b4_1, ((List.take t7 b6) ++ ([(v31, v31, (subI b2_1 v30 v31))] : List Ent) : List Ent))
            else
              none
          else
            none
        else
          none
      else
        none
    else
      none
  else
    some (t0, t1, t7, t8, b0_0, b0_1, b2_0, b2_1, b4_0, b4_1, b6)
def f4.s0 (K : Nat) (rec : f4.Ty0 → Option (f4.Ty1)) (x : f4.Ty0) : Option (f4.Ty1) := f4.s0t K rec x.1 x.2.1 x.2.2.1 x.2.2.2.1 x.2.2.2.2.1 x.2.2.2.2.2.1 x.2.2.2.2.2.2.1 x.2.2.2.2.2.2.2.1 x.2.2.2.2.2.2.2.2.1 x.2.2.2.2.2.2.2.2.2.1 x.2.2.2.2.2.2.2.2.2.2.1 x.2.2.2.2.2.2.2.2.2.2.2.1 x.2.2.2.2.2.2.2.2.2.2.2.2
noncomputable def f4.s0.b : Code := (findLoop 0 f4.c).getD .skip
def f4.s0.h : Hint := { lv := [0, 1, 2, 7, 8, 9], peel := true }
def f4.s0.ho : Hint := { lv := [0, 1, 7, 8] }
def f4.s0.shp (x : f4.Ty0) : VS := ⟨[(0, .vw true 0 0 x.1 1), (1, .vw true 2 0 x.2.1 3), (2, .vw true 4 0 x.2.2.1 5), (7, .vec 6 0 x.2.2.2.1 7), (8, .int .i64 x.2.2.2.2.1), (9, .int .i64 x.2.2.2.2.2.1)], [(0, ([.ints .u8 x.2.2.2.2.2.2.1 x.2.2.2.2.2.2.2.1], 0, .ro)), (2, ([.ints .u8 x.2.2.2.2.2.2.2.2.1 x.2.2.2.2.2.2.2.2.2.1], 0, .ro)), (4, ([.ints .u16 x.2.2.2.2.2.2.2.2.2.2.1 x.2.2.2.2.2.2.2.2.2.2.2.1], 0, .ro)), (6, ([], 22, .rg 7 8 x.2.2.2.2.2.2.2.2.2.2.2.2))], 9⟩
def f4.s0.inX : VS → Option (f4.Ty0)
  | ⟨[(0, .vw true 0 0 t0 1), (1, .vw true 2 0 t1 3), (2, .vw true 4 0 t2 5), (7, .vec 6 0 t7 7), (8, .int .i64 t8), (9, .int .i64 t9)], [(0, ([.ints .u8 b0_0 b0_1], 0, .ro)), (2, ([.ints .u8 b2_0 b2_1], 0, .ro)), (4, ([.ints .u16 b4_0 b4_1], 0, .ro)), (6, ([], 22, .rg 7 8 b6))], 9⟩ => some (t0, t1, t2, t7, t8, t9, b0_0, b0_1, b2_0, b2_1, b4_0, b4_1, b6)
  | _ => none
def f4.s0.o0 (y : f4.Ty1) : VS := ⟨[(0, .vw true 0 0 y.1 1), (1, .vw true 2 0 y.2.1 3), (7, .vec 6 0 y.2.2.1 7), (8, .int .i64 y.2.2.2.1)], [(0, ([.ints .u8 y.2.2.2.2.1 y.2.2.2.2.2.1], 0, .ro)), (2, ([.ints .u8 y.2.2.2.2.2.2.1 y.2.2.2.2.2.2.2.1], 0, .ro)), (4, ([.ints .u16 y.2.2.2.2.2.2.2.2.1 y.2.2.2.2.2.2.2.2.2.1], 0, .ro)), (6, ([], 22, .rg 7 8 y.2.2.2.2.2.2.2.2.2.2))], 9⟩
def f4.s0.des : ∀ α : Type, (f4.Ty1) → (Ex → VS → Option α) → Option α := (des1 (.exit 0) f4.s0.o0)
def f4.s0.out : f4.Ty1 → Ex × VS := (fun y => (.exit 0, f4.s0.o0 y))
theorem f4.s0.desOK : ∀ α y (k : Ex → VS → Option α), f4.s0.des α y k = k (f4.s0.out y).1 (f4.s0.out y).2 := (fun _ _ _ => rfl)
def f4.s0.inY : Ex → VS → Option (f4.Ty1)
  | .exit 0, ⟨[(0, .vw true 0 0 t0 1), (1, .vw true 2 0 t1 3), (7, .vec 6 0 t7 7), (8, .int .i64 t8)], [(0, ([.ints .u8 b0_0 b0_1], 0, .ro)), (2, ([.ints .u8 b2_0 b2_1], 0, .ro)), (4, ([.ints .u16 b4_0 b4_1], 0, .ro)), (6, ([], 22, .rg 7 8 b6))], 9⟩ => some (t0, t1, t7, t8, b0_0, b0_1, b2_0, b2_1, b4_0, b4_1, b6)
  | _, _ => none
def f4.lp (K : Nat) : Nat → Option (Hint × Summ) := tabLp [(0, f4.s0.h, summOf (iter (f4.s0 K) K) f4.s0.inX f4.s0.des)]
noncomputable def f4.tab (K : Nat) : List (Nat × Entry) := [(12, (f12.E K)), (15, (rwE 1 (viewE [(0, .u8)] (f15v1.E K))))]
theorem f4.tabOK (K : Nat) : SpecOK Try.prog (tabSp (f4.tab K)) := tab_ok ((tab_cons (f12.ok K) (tab_cons (rw_ok (view_ok (f15v1.ok K))) tab_nil)))
theorem f4.s0.eq (K : Nat) (rec : f4.Ty0 → Option (f4.Ty1)) (x : f4.Ty0) : f4.s0 K rec x = roundL (getA tys) (tabSp (f4.tab K)) 69 6 (f4.lp K) 400 f4.s0.b f4.s0.h f4.s0.ho f4.s0.shp f4.s0.inX f4.s0.inY rec x := by kernel_rfl
theorem f4.s0.lok (K : Nat) : LoopsOK Try.prog 69 6 (f4.lp K) f4.s0.b := loops_ok (by
  have h : loopsIn (f4.lp K) f4.s0.b = [] := by kernel_rfl
  rw [h]; simp)
theorem f4.s0.ok (K : Nat) : SummOK Try.prog 69 6 (summOf (iter (f4.s0 K) K) f4.s0.inX f4.s0.des) f4.s0.b :=
  loop_ok mix tys_ok (f4.tabOK K) (h := f4.s0.h) (ho := f4.s0.ho) (shp := f4.s0.shp) (inX := f4.s0.inX) (des := f4.s0.des) (out := f4.s0.out) (inY := f4.s0.inY) (fuel := 400)
    (by intro st x h; unfold f4.s0.inX at h; split at h <;> simp at h; subst h; rfl)
    (by intro e st y h; unfold f4.s0.inY at h; split at h <;> simp at h <;> subst h <;> rfl)
    f4.s0.desOK (f4.s0.lok K) (f4.s0 K) (f4.s0.eq K) K
theorem f4.loops (K : Nat) : LoopsOK Try.prog 69 6 (f4.lp K) f4.c := loops_ok (by
  have h : loopsIn (f4.lp K) f4.c = [(0, f4.s0.b)] := by kernel_rfl
  rw [h]
  intro p hp
  simp only [List.mem_cons, List.not_mem_nil, or_false] at hp
  rcases hp with rfl
  · exact ⟨_, rfl, (f4.s0.ok K)⟩)
def f4.T (K : Nat) (a0 : Nat) (a1 : Nat) (a2 : Nat) (m0_0 : Nat) (m0_1 : List Int) (m2_0 : Nat) (m2_1 : List Int) (m4_0 : Nat) (m4_1 : List Int) : Option (f4.Ty3) :=
  bif (decide (((a1 : Nat) : Int) > 10000)) then
    (f12.F K ()).bind fun y3 =>
    some (y3, m0_0, m0_1, m2_0, m2_1, m4_0, m4_1)
  else
    bif (decide (((a2 : Nat) : Int) > 40)) then
      (f12.F K ()).bind fun y6 =>
      some (y6, m0_0, m0_1, m2_0, m2_1, m4_0, m4_1)
    else
      bif (decide (((a0 : Nat) : Int) > 10000)) then
        (f12.F K ()).bind fun y9 =>
        some (y9, m0_0, m0_1, m2_0, m2_1, m4_0, m4_1)
      else
        bif (decide (0 < ((a2 : Nat) : Int))) then
          bif decide ((0 : Int) ≤ 0 ∧ 0 < ((a2 : Nat) : Int)) then
            bif Nat.blt 0 m4_0 then
              let v16 := IntKind.wrap .i64 ((IntKind.wrap .i64 (((a1 : Nat) : Int) - 0)) + 1)
              bif decide (v16 ≠ 0) then
                let v18 := IntKind.wrap .i64 (0 + (Int.tmod (IntKind.wrap .i64 (List.getD m4_1 0 0)) v16))
                bif (decide (0 ≤ v18 ∧ v18 ≤ ((a1 : Nat) : Int)) && (decide ((0 : Int) ≤ 0 ∧ 0 ≤ ((Int.toNat v18 : Nat) : Int)))) then
                  let v19 := Int.toNat v18
                  bif ((((Nat.ble (0 + v19) m2_0 && true) && (Nat.beq v19 v19)) && true) && true) then
                    (iter (f4.s0 K) K (a0, a1, a2, 1, v18, 1, m0_0, m0_1, m2_0, m2_1, m4_0, m4_1, ([(v19, v19, (subI m2_1 0 v19))] : List Ent))).bind fun y34 =>
                    bif decide (0 ≤ y34.2.2.2.1 ∧ y34.2.2.2.1 ≤ ((y34.2.1 : Nat) : Int)) then
                      let v35 := 0 + (Int.toNat y34.2.2.2.1)
                      let v36 := y34.2.1 - (Int.toNat y34.2.2.2.1)
                      bif (((((Nat.ble (v35 + v36) y34.2.2.2.2.2.2.1 && true) && (Nat.beq v36 v36)) && true) && (Nat.ble y34.2.2.1 (List.length y34.2.2.2.2.2.2.2.2.2.2))) && (fitB ((y34.2.2.1 + 1) * 24))) then
                        let v37 := y34.2.2.1 + 1
                        let v38 := ((List.take y34.2.2.1 y34.2.2.2.2.2.2.2.2.2.2) ++ ([(v36, v36, (subI y34.2.2.2.2.2.2.2.1 v35 v36))] : List Ent) : List Ent)
                        bif Nat.beq v37 (List.length v38) then
                          bif ((Nat.ble (0 + y34.1) y34.2.2.2.2.1 && true) && true) then
                            (f15v1.F K (y34.1, v37, y34.1, (subI y34.2.2.2.2.2.1 0 y34.1), v38)).bind fun y39 =>
                            bif (((Nat.ble (0 + y34.2.1) y34.2.2.2.2.2.2.1 && true) && (Nat.beq y34.2.1 y34.2.1)) && true) then
                              bif ((Nat.ble (0 + y34.1) y34.2.2.2.2.1 && true) && true) then
                                (f15v1.F K (y34.1, 1, y34.1, (subI y34.2.2.2.2.2.1 0 y34.1), ([(y34.2.1, y34.2.1, (subI y34.2.2.2.2.2.2.2.1 0 y34.2.1))] : List Ent))).bind fun y40 =>
                                bif (eqL 32 y39.1 y40.1 && true) then
                                  (f12.F K ()).bind fun y42 =>
                                  some (y42, y34.2.2.2.2.1, y34.2.2.2.2.2.1, y34.2.2.2.2.2.2.1, y34.2.2.2.2.2.2.2.1, y34.2.2.2.2.2.2.2.2.1, y34.2.2.2.2.2.2.2.2.2.1)
                                else
                                  some (false, y34.2.2.2.2.1, y34.2.2.2.2.2.1, y34.2.2.2.2.2.2.1, y34.2.2.2.2.2.2.2.1, y34.2.2.2.2.2.2.2.2.1, y34.2.2.2.2.2.2.2.2.2.1)
                              else
                                none
                            else
                              none
                          else
                            none
                        else
                          none
                      else
                        none
                    else
                      none
                  else
                    none
                else
                  none
              else
                none
            else
              none
          else
            none
        else
          bif decide ((0 : Int) ≤ 0 ∧ 0 ≤ ((a1 : Nat) : Int)) then
            bif ((((Nat.ble (0 + a1) m2_0 && true) && (Nat.beq a1 a1)) && true) && true) then
              bif ((Nat.ble (0 + a0) m0_0 && true) && true) then
                (f15v1.F K (a0, 1, a0, (subI m0_1 0 a0), ([(a1, a1, (subI m2_1 0 a1))] : List Ent))).bind fun y43 =>
                bif (((Nat.ble (0 + a1) m2_0 && true) && (Nat.beq a1 a1)) && true) then
                  bif ((Nat.ble (0 + a0) m0_0 && true) && true) then
                    (f15v1.F K (a0, 1, a0, (subI m0_1 0 a0), ([(a1, a1, (subI m2_1 0 a1))] : List Ent))).bind fun y44 =>
                    bif (eqL 32 y43.1 y44.1 && true) then
                      (f12.F K ()).bind fun y46 =>
                      some (y46, m0_0, m0_1, m2_0, m2_1, m4_0, m4_1)
                    else
                      some (false, m0_0, m0_1, m2_0, m2_1, m4_0, m4_1)
                  else
                    none
                else
                  none
              else
                none
            else
              none
          else
            none
def f4.F (K : Nat) (x : f4.Ty2) : Option (f4.Ty3) := f4.T K x.1 x.2.1 x.2.2.1 x.2.2.2.1 x.2.2.2.2.1 x.2.2.2.2.2.1 x.2.2.2.2.2.2.1 x.2.2.2.2.2.2.2.1 x.2.2.2.2.2.2.2.2
def f4.av (x : f4.Ty2) : List VV := [.vw true 0 0 x.1 1, .vw true 2 0 x.2.1 3, .vw true 4 0 x.2.2.1 5]
def f4.bl (x : f4.Ty2) : List (Nat × Blk) := [(0, ([.ints .u8 x.2.2.2.1 x.2.2.2.2.1], 0, .ro)), (2, ([.ints .u8 x.2.2.2.2.2.1 x.2.2.2.2.2.2.1], 0, .ro)), (4, ([.ints .u16 x.2.2.2.2.2.2.2.1 x.2.2.2.2.2.2.2.2], 0, .ro))]
def f4.inA : VS → Option (f4.Ty2)
  | ⟨[(0, .vw true 0 0 a0 1), (1, .vw true 2 0 a1 3), (2, .vw true 4 0 a2 5)], [(0, ([.ints .u8 m0_0 m0_1], 0, .ro)), (2, ([.ints .u8 m2_0 m2_1], 0, .ro)), (4, ([.ints .u16 m4_0 m4_1], 0, .ro))], 6⟩ => some (a0, a1, a2, m0_0, m0_1, m2_0, m2_1, m4_0, m4_1)
  | _ => none
def f4.o0 (y : f4.Ty3) : VS := ⟨[(0, .bool y.1)], [(0, ([.ints .u8 y.2.1 y.2.2.1], 0, .ro)), (2, ([.ints .u8 y.2.2.2.1 y.2.2.2.2.1], 0, .ro)), (4, ([.ints .u16 y.2.2.2.2.2.1 y.2.2.2.2.2.2], 0, .ro))], 6⟩
def f4.des : ∀ α : Type, (f4.Ty3) → (VS → Option α) → Option α := (dv1 f4.o0)
def f4.out : f4.Ty3 → VS := f4.o0
def f4.inR : VS → Option (f4.Ty3)
  | ⟨[(0, .bool y)], [(0, ([.ints .u8 z0_0 z0_1], 0, .ro)), (2, ([.ints .u8 z2_0 z2_1], 0, .ro)), (4, ([.ints .u16 z4_0 z4_1], 0, .ro))], 6⟩ => some (y, z0_0, z0_1, z2_0, z2_1, z4_0, z4_1)
  | _ => none
noncomputable def f4.E (K : Nat) : Entry := genE 6 f4.inA (f4.F K) f4.des
theorem f4.eq (K : Nat) (x : f4.Ty2) : f4.F K x = xrun (getA tys) (tabSp (f4.tab K)) Try.f4.ntmps 6 (f4.lp K) 400 f4.c ⟨initL 0 (f4.av x), f4.bl x, 6⟩ (contF (getA tys) 6 Try.f4.results.toList f4.inR) := by kernel_rfl
theorem f4.ok (K : Nat) : EntryOK Try.prog 4 (f4.E K) :=
  gen_ok mix tys_ok (f4.tabOK K) Try.func4 (by kernel_rfl : Try.f4.body = some f4.c) (by kernel_rfl) (f4.loops K) (av := f4.av) (bl := f4.bl) (out := f4.out) (fuel := 400)
    (by intro s x h; unfold f4.inA at h; split at h <;> simp at h; subst h; rfl) (fun _ => Nat.le_of_ble_eq_true rfl)
    (by intro s y h; unfold f4.inR at h; split at h <;> simp at h <;> subst h <;> rfl) (fun _ _ _ => rfl) (f4.eq K)
end Go.Proofs

namespace Go.Proofs
open Go.VM
def Pt.fr (c : List Int) (n : Nat) : Nat → Nat
  | 0 => 0
  | i + 1 => Pt.fr c n i + (c.getD i 0).toNat % (n - Pt.fr c n i + 1)
def Pt.ent (m : List Int) (a b : Nat) : Ent := (b - a, b - a, subI m a (b - a))
def Pt.ll (c m : List Int) (n i : Nat) : List Ent := (List.range i).map fun j => Pt.ent m (Pt.fr c n j) (Pt.fr c n (j + 1))
theorem Pt.fr_le (c : List Int) (n : Nat) : ∀ i, Pt.fr c n i ≤ n
  | 0 => Nat.zero_le _
  | i + 1 => by
    have h1 := Pt.fr_le c n i
    have h2 := Nat.mod_lt (c.getD i 0).toNat (show 0 < n - Pt.fr c n i + 1 by omega)
    simp only [Pt.fr]; omega
theorem Pt.fr_up (c : List Int) (n i : Nat) : Pt.fr c n i ≤ Pt.fr c n (i + 1) := by simp only [Pt.fr]; omega
theorem Pt.sh_ent (m : List Int) (a b : Nat) : Rs.sh (Pt.ent m a b) = subI m a (b - a) := subI_self _ (subI_length _ _ _)
theorem Pt.sub_take (m : List Int) {a b : Nat} (h : a ≤ b) (hb : b ≤ m.length) : m.take a ++ subI m a (b - a) = m.take b := by
  refine list_getD (by rw [List.length_append, subI_length, List.length_take, List.length_take]; omega) fun i hi => ?_
  have hi' : i < b := by rw [List.length_append, subI_length, List.length_take] at hi; omega
  simp only [List.getD_eq_getElem?_getD]
  by_cases h1 : i < a
  · rw [List.getElem?_append_left (by rw [List.length_take]; omega), List.getElem?_take_of_lt h1, List.getElem?_take_of_lt hi']
  · rw [List.getElem?_append_right (by rw [List.length_take]; omega), List.getElem?_take_of_lt hi', subI, List.getElem?_map, List.length_take, Nat.min_eq_left (by omega), List.getElem?_range (by omega)]
    simp only [Option.map_some, Option.getD_some, List.getD_eq_getElem?_getD]
    rw [show a + (i - a) = i by omega]
theorem Pt.ll_next (c m : List Int) (n i : Nat) : Pt.ll c m n (i + 1) = Pt.ll c m n i ++ [Pt.ent m (Pt.fr c n i) (Pt.fr c n (i + 1))] := by
  simp [Pt.ll, List.range_succ]
theorem Pt.ll_length (c m : List Int) (n i : Nat) : (Pt.ll c m n i).length = i := by simp [Pt.ll]
theorem Pt.cat (c m : List Int) (n : Nat) (hm : m.length = n) : ∀ i, Rs.cat (Pt.ll c m n i) = m.take (Pt.fr c n i)
  | 0 => by simp [Pt.ll, Rs.cat, Pt.fr]
  | i + 1 => by
    have ih := Pt.cat c m n hm i
    rw [Pt.ll_next, Rs.cat, List.flatMap_append]
    rw [Rs.cat] at ih
    rw [ih]
    simp only [List.flatMap_cons, List.flatMap_nil, List.append_nil, Pt.sh_ent]
    exact Pt.sub_take m (Pt.fr_up c n i) (by have := Pt.fr_le c n (i + 1); omega)
theorem Pt.ok_ent (m : List Int) (mo : octets m) {a b n : Nat} (h : b ≤ n) : (Pt.ent m a b).1 ≤ n ∧ octets (Rs.sh (Pt.ent m a b)) := by
  rw [Pt.sh_ent]
  exact ⟨by simp only [Pt.ent]; omega, octets_sub mo _ _⟩
theorem Pt.step (c : List Int) (n i : Nat) (hn : n ≤ 10000) (hc : 0 ≤ c.getD i 0 ∧ c.getD i 0 < 65536) :
    IntKind.wrap .i64 ((IntKind.wrap .i64 (((n : Nat) : Int) - ((Pt.fr c n i : Nat) : Int))) + 1) = ((n - Pt.fr c n i + 1 : Nat) : Int) ∧
    IntKind.wrap .i64 (((Pt.fr c n i : Nat) : Int) + (Int.tmod (IntKind.wrap .i64 (List.getD c i 0)) ((n - Pt.fr c n i + 1 : Nat) : Int))) = ((Pt.fr c n (i + 1) : Nat) : Int) := by
  have h1 := Pt.fr_le c n i
  have h2 := Pt.fr_le c n (i + 1)
  constructor
  · rw [wrap_i (((n : Nat) : Int) - ((Pt.fr c n i : Nat) : Int)) (by omega) (by omega), wrap_i _ (by omega) (by omega)]; omega
  · obtain ⟨z, hz⟩ : ∃ z : Nat, c.getD i 0 = (z : Int) := ⟨(c.getD i 0).toNat, by omega⟩
    have e : Pt.fr c n (i + 1) = Pt.fr c n i + z % (n - Pt.fr c n i + 1) := by simp only [Pt.fr, hz, Int.toNat_natCast]
    rw [hz, wrap_i (z : Int) (by omega) (by omega), tmod_nat, wrap_i _ (by omega) (by omega), e]; omega
theorem f4.loop (K nk n N : Nat) (k m c : List Int) (hm : m.length = n) (hc : c.length = N) (hcr : ∀ x ∈ c, 0 ≤ x ∧ x < 65536) (hn : n ≤ 10000) (hN : N ≤ 40) (h0 : 0 < N) (hK : N < K) :
    iter (f4.s0 K) K (nk, n, N, 1, ((Pt.fr c n 1 : Nat) : Int), 1, nk, k, n, m, N, c, Pt.ll c m n 1) = some (nk, n, N, ((Pt.fr c n N : Nat) : Int), nk, k, n, m, N, c, Pt.ll c m n N) := by
  have := iter_for (stp := f4.s0 K) (N := N - 1) (fun i => (nk, n, N, i + 1, ((Pt.fr c n (i + 1) : Nat) : Int), ((i + 1 : Nat) : Int), nk, k, n, m, N, c, Pt.ll c m n (i + 1))) (y := some (nk, n, N, ((Pt.fr c n N : Nat) : Int), nk, k, n, m, N, c, Pt.ll c m n N)) ?_ ?_ (K := K) (by omega)
  · exact this
  · intro i hi rec
    have hg : 0 ≤ c.getD (i + 1) 0 ∧ c.getD (i + 1) 0 < 65536 := by
      rw [List.getD_eq_getElem?_getD, List.getElem?_eq_getElem (by omega)]
      exact hcr _ (List.getElem_mem _)
    obtain ⟨s1, s2⟩ := Pt.step c n (i + 1) hn hg
    have l1 := Pt.fr_le c n (i + 1)
    have l2 := Pt.fr_le c n (i + 1 + 1)
    have l3 := Pt.fr_up c n (i + 1)
    simp only [f4.s0, f4.s0t]
    rw [decide_eq_true (show ((i + 1 : Nat) : Int) < ((N : Nat) : Int) by omega), cond_t, decide_eq_true (show (0 : Int) ≤ ((i + 1 : Nat) : Int) ∧ ((i + 1 : Nat) : Int) < ((N : Nat) : Int) by omega), cond_t, Int.toNat_natCast, Nat.zero_add, Rs.blt (show i + 1 < N by omega), cond_t, s1, decide_eq_true (show ((n - Pt.fr c n (i + 1) + 1 : Nat) : Int) ≠ 0 by omega), cond_t, s2,
      decide_eq_true (show (0 : Int) ≤ ((Pt.fr c n (i + 1 + 1) : Nat) : Int) ∧ ((Pt.fr c n (i + 1 + 1) : Nat) : Int) ≤ ((n : Nat) : Int) by omega), Int.toNat_natCast, decide_eq_true (show (0 : Int) ≤ ((Pt.fr c n (i + 1) : Nat) : Int) ∧ ((Pt.fr c n (i + 1) : Nat) : Int) ≤ ((Pt.fr c n (i + 1 + 1) : Nat) : Int) by omega), Bool.and_self, cond_t, Int.toNat_natCast, Nat.zero_add,
      ble_true (show Pt.fr c n (i + 1) + (Pt.fr c n (i + 1 + 1) - Pt.fr c n (i + 1)) ≤ n by omega), show Nat.beq (Pt.fr c n (i + 1 + 1) - Pt.fr c n (i + 1)) (Pt.fr c n (i + 1 + 1) - Pt.fr c n (i + 1)) = true from Nat.beq_refl _, Pt.ll_length, ble_true (Nat.le_refl (i + 1)), fitB_true (by omega), Bool.and_self, Bool.and_self, Bool.and_self, Bool.and_self, Bool.and_self, cond_t, wrap_i _ (by omega) (by omega), List.take_of_length_le (by rw [Pt.ll_length]; omega), Pt.ll_next c m n (i + 1)]
    rfl
  · intro rec
    simp only [f4.s0, f4.s0t]
    rw [show N - 1 + 1 = N by omega, decide_eq_false (show ¬ ((N : Nat) : Int) < ((N : Nat) : Int) by omega), cond_f]
theorem f4.holds (k : List Int) (ko : octets k) (m : List Int) (mo : octets m) (c : List Int) (hcr : ∀ x ∈ c, 0 ≤ x ∧ x < 65536) :
    f4.F 100000 (k.length, m.length, c.length, k.length, k, m.length, m, c.length, c) = some (true, k.length, k, m.length, m, c.length, c) := by
  generalize hk : k.length = nk
  generalize hm : m.length = n
  generalize hc : c.length = N
  simp only [f4.F, f4.T]
  by_cases h1 : 10000 < n
  · rw [decide_eq_true (show ((n : Nat) : Int) > 10000 by omega), cond_t, f12.holds, bind_s]
  rw [decide_eq_false (show ¬ ((n : Nat) : Int) > 10000 by omega), cond_f]
  by_cases h2 : 40 < N
  · rw [decide_eq_true (show ((N : Nat) : Int) > 40 by omega), cond_t, f12.holds, bind_s]
  rw [decide_eq_false (show ¬ ((N : Nat) : Int) > 40 by omega), cond_f]
  by_cases h3 : 10000 < nk
  · rw [decide_eq_true (show ((nk : Nat) : Int) > 10000 by omega), cond_t, f12.holds, bind_s]
  rw [decide_eq_false (show ¬ ((nk : Nat) : Int) > 10000 by omega), cond_f]
  have hone : f15v1.F 100000 (nk, 1, nk, k, [(n, n, m)]) = some (Sh.mac k m, nk, k, [(n, n, m)]) := by
    have e := f15v1.spec 100000 1 nk k [Pt.ent m 0 n] hk ko (by omega) rfl (b := n) (fun e he => by
      simp only [List.mem_singleton] at he
      subst he
      exact Pt.ok_ent m mo (Nat.le_refl n)) (by omega) (by omega) (by omega)
    have he : Pt.ent m 0 n = (n, n, m) := by simp only [Pt.ent, Nat.sub_zero]; rw [subI_self _ hm]
    rw [he] at e
    rw [e]
    simp only [Rs.cat, List.flatMap_cons, List.flatMap_nil, List.append_nil]
    rw [show Rs.sh (n, n, m) = m from subI_self _ hm]
  by_cases h4 : 0 < N
  · have hg : 0 ≤ c.getD 0 0 ∧ c.getD 0 0 < 65536 := by
      rw [List.getD_eq_getElem?_getD, List.getElem?_eq_getElem (by omega)]
      exact hcr _ (List.getElem_mem _)
    obtain ⟨s1, s2⟩ := Pt.step c n 0 (by omega) hg
    have l1 := Pt.fr_le c n 1
    have l2 := Pt.fr_le c n N
    have e0 : Pt.fr c n 0 = 0 := rfl
    rw [e0] at s1 s2
    simp only [Nat.sub_zero] at s1 s2
    rw [decide_eq_true (show (0 : Int) < ((N : Nat) : Int) by omega), cond_t, decide_eq_true (show (0 : Int) ≤ 0 ∧ (0 : Int) < ((N : Nat) : Int) by omega), cond_t, Rs.blt h4, cond_t, show ((n : Nat) : Int) - 0 = ((n : Nat) : Int) - ((0 : Nat) : Int) from rfl, s1, decide_eq_true (show ((n + 1 : Nat) : Int) ≠ 0 by omega), cond_t]
    rw [show IntKind.wrap .i64 (0 + (Int.tmod (IntKind.wrap .i64 (List.getD c 0 0)) ((n + 1 : Nat) : Int))) = ((Pt.fr c n 1 : Nat) : Int) from s2]
    rw [decide_eq_true (show (0 : Int) ≤ ((Pt.fr c n 1 : Nat) : Int) ∧ ((Pt.fr c n 1 : Nat) : Int) ≤ ((n : Nat) : Int) by omega), Int.toNat_natCast, decide_eq_true (show (0 : Int) ≤ 0 ∧ (0 : Int) ≤ ((Pt.fr c n 1 : Nat) : Int) by omega), Bool.and_self, cond_t, Nat.zero_add, ble_true l1, show Nat.beq (Pt.fr c n 1) (Pt.fr c n 1) = true from Nat.beq_refl _]
    simp only [Bool.and_self]
    rw [cond_t]
    have hl1 : ([(Pt.fr c n 1, Pt.fr c n 1, subI m 0 (Pt.fr c n 1))] : List Ent) = Pt.ll c m n 1 := by
      simp [Pt.ll, Pt.ent, List.range, List.range.loop, e0]
    rw [hl1, f4.loop 100000 nk n N k m c hm hc hcr (by omega) (by omega) h4 (by omega), bind_s]
    simp only []
    have hl2 : (List.take N (Pt.ll c m n N) ++ ([(n - Pt.fr c n N, n - Pt.fr c n N, subI m (Pt.fr c n N) (n - Pt.fr c n N))] : List Ent)) = Pt.ll c m n N ++ [Pt.ent m (Pt.fr c n N) n] := by
      rw [List.take_of_length_le (by rw [Pt.ll_length]; omega)]; rfl
    rw [decide_eq_true (show (0 : Int) ≤ ((Pt.fr c n N : Nat) : Int) ∧ ((Pt.fr c n N : Nat) : Int) ≤ ((n : Nat) : Int) by omega), cond_t, Int.toNat_natCast, Nat.zero_add, ble_true (show Pt.fr c n N + (n - Pt.fr c n N) ≤ n by omega), show Nat.beq (n - Pt.fr c n N) (n - Pt.fr c n N) = true from Nat.beq_refl _, Pt.ll_length, ble_true (Nat.le_refl N), fitB_true (by omega), Bool.and_self, Bool.and_self, Bool.and_self, Bool.and_self, Bool.and_self, cond_t, hl2]
    have hl3 : (Pt.ll c m n N ++ [Pt.ent m (Pt.fr c n N) n]).length = N + 1 := by rw [List.length_append, Pt.ll_length]; rfl
    have hok : Rs.ok n (Pt.ll c m n N ++ [Pt.ent m (Pt.fr c n N) n]) := fun e he => by
      rcases List.mem_append.1 he with he | he
      · obtain ⟨j, _, rfl⟩ := List.mem_map.1 he
        exact Pt.ok_ent m mo (Pt.fr_le c n (j + 1))
      · simp only [List.mem_singleton] at he
        subst he
        exact Pt.ok_ent m mo (Nat.le_refl n)
    have hcat : Rs.cat (Pt.ll c m n N ++ [Pt.ent m (Pt.fr c n N) n]) = m := by
      rw [Rs.cat, List.flatMap_append]
      have := Pt.cat c m n hm N
      rw [Rs.cat] at this
      rw [this]
      simp only [List.flatMap_cons, List.flatMap_nil, List.append_nil, Pt.sh_ent]
      rw [Pt.sub_take m l2 (by omega), List.take_of_length_le (by omega)]
    rw [hl3, show Nat.beq (N + 1) (N + 1) = true from Nat.beq_refl _, cond_t, Nat.zero_add, ble_true (Nat.le_refl nk), Bool.and_self, Bool.and_self, cond_t, subI_self _ hk, f15v1.spec 100000 (N + 1) nk k _ hk ko (by omega) hl3 hok (by omega) (by omega) (by omega), bind_s, Nat.zero_add, ble_true (Nat.le_refl n), show Nat.beq n n = true from Nat.beq_refl _, Bool.and_self, Bool.and_self, Bool.and_self, cond_t, cond_t, subI_self _ hm, hone, bind_s]
    simp only []
    rw [hcat, eqL_refl, Bool.and_self, cond_t, f12.holds, bind_s]
  · have hN0 : N = 0 := by omega
    subst hN0
    rw [decide_eq_false (show ¬ (0 : Int) < (((0 : Nat) : Nat) : Int) by omega), cond_f, decide_eq_true (show (0 : Int) ≤ 0 ∧ (0 : Int) ≤ ((n : Nat) : Int) by omega), cond_t, Nat.zero_add, ble_true (Nat.le_refl n), show Nat.beq n n = true from Nat.beq_refl _, Nat.zero_add, ble_true (Nat.le_refl nk)]
    simp only [Bool.and_self]
    rw [cond_t, cond_t, subI_self _ hk, subI_self _ hm, hone, bind_s, cond_t, cond_t, bind_s]
    simp only []
    rw [eqL_refl, Bool.and_self, cond_t, f12.holds, bind_s]
end Go.Proofs
