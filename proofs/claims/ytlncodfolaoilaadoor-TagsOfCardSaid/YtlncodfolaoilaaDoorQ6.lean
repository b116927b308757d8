/- Plain laws: lemmas that hold with no condition but those that each states. -/
import Derived.Test.YtlncodfolaoilaaDoorQ2
import Derived.Test.YtlncodfolaoilaaDoorQ5
import Derived.Laws.MathBits
namespace Go.Proofs
open Go.VM
def f45.T (_K : Nat) (a0 : Int) (a1 : Int) : Option (Int) :=
  let v2 := bits .and .u64 (IntKind.wrap .u64 a1) 31
  bif decide (0 ≤ v2) then
    let v4 := IntKind.wrap .u64 (32 - v2)
    bif decide (0 ≤ v4) then
      some (bits .or .u32 (shiftI .shl .u32 a0 v2) (shiftI .shr .u32 a0 v4))
    else
      none
  else
    none
def f45.F (K : Nat) (x : Int × Int) : Option (Int) := f45.T K x.1 x.2
def f45.av (x : Int × Int) : List VV := [.int .u32 x.1, .int .i64 x.2]
def f45.bl (_x : Int × Int) : List (Nat × Blk) := []
def f45.inA : VS → Option (Int × Int)
  | ⟨[(0, .int .u32 a0), (1, .int .i64 a1)], [], 0⟩ => some (a0, a1)
  | _ => none
def f45.o0 (y : Int) : VS := ⟨[(0, .int .u32 y)], [], 0⟩
def f45.inR : VS → Option (Int)
  | ⟨[(0, .int .u32 y)], [], 0⟩ => some y
  | _ => none
noncomputable def f45.E (K : Nat) : Entry := genE 0 f45.inA (f45.F K) (dv1 f45.o0)
theorem f45.ok (K : Nat) : EntryOK Tryd.prog 45 (f45.E K) := gen_ok mix tys_ok (tab_ok ( tab_nil)) Tryd.func45 (c := bodyOf Tryd.f45) (by kernel_rfl) (by kernel_rfl) (loops_none (lp := lpNone) (by kernel_rfl)) (av := f45.av) (bl := f45.bl) (inR := f45.inR) (out := f45.o0) (fuel := 400)
  (by intro s x h; unfold f45.inA at h; split at h <;> simp at h; subst h; rfl) (fun _ => Nat.le_of_ble_eq_true rfl)
  (by intro s y h; unfold f45.inR at h; split at h <;> simp at h <;> subst h <;> rfl) (fun _ _ _ => rfl) (fun _ => by kernel_rfl)
end Go.Proofs

namespace Go.Proofs
open Go.VM
abbrev f40.Ty0 := Int × Int × Nat × Int × Int × Nat × List Int
abbrev f40.Ty1 := Int × Nat × Nat × List Int
abbrev f40.Ty2 := Int × Nat × List Int
noncomputable def f40.c : Code := bodyOf Tryd.f40
def f40.s0t (K : Nat) (rec : f40.Ty0 → Option (f40.Ty2)) (t0 : Int) (t5 : Int) (t8 : Nat) (t9 : Int) (t10 : Int) (b0_0 : Nat) (b0_1 : List Int) : Option (f40.Ty2) :=
  bif (decide (t10 < t9)) then
    bif decide (0 ≤ t10 ∧ t10 < ((t8 : Nat) : Int)) then
      let v3 := 0 + (Int.toNat t10)
      bif Nat.blt v3 b0_0 then
        (f45.F K (t0, (IntKind.wrap .i64 (0 - (List.getD b0_1 v3 0))))).bind fun y6 =>
        rec (t0, (bits .xor .u32 t5 y6), t8, t9, (IntKind.wrap .i64 (t10 + 1)), b0_0, b0_1)
      else
        none
    else
      none
  else
    some (t5, b0_0, b0_1)
def f40.s0 (K : Nat) (rec : f40.Ty0 → Option (f40.Ty2)) (x : f40.Ty0) : Option (f40.Ty2) := f40.s0t K rec x.1 x.2.1 x.2.2.1 x.2.2.2.1 x.2.2.2.2.1 x.2.2.2.2.2.1 x.2.2.2.2.2.2
noncomputable def f40.s0.b : Code := (findLoop 0 f40.c).getD .skip
def f40.s0.h : Hint := { lv := [0, 5, 8, 9, 10] }
def f40.s0.ho : Hint := { lv := [5] }
def f40.s0.shp (x : f40.Ty0) : VS := ⟨[(0, .int .u32 x.1), (5, .int .u32 x.2.1), (8, .vw true 0 0 x.2.2.1 1), (9, .int .i64 x.2.2.2.1), (10, .int .i64 x.2.2.2.2.1)], [(0, ([.ints .i64 x.2.2.2.2.2.1 x.2.2.2.2.2.2], 0, .ro))], 2⟩
def f40.s0.inX : VS → Option (f40.Ty0)
  | ⟨[(0, .int .u32 t0), (5, .int .u32 t5), (8, .vw true 0 0 t8 1), (9, .int .i64 t9), (10, .int .i64 t10)], [(0, ([.ints .i64 b0_0 b0_1], 0, .ro))], 2⟩ => some (t0, t5, t8, t9, t10, b0_0, b0_1)
  | _ => none
def f40.s0.o0 (y : f40.Ty2) : VS := ⟨[(5, .int .u32 y.1)], [(0, ([.ints .i64 y.2.1 y.2.2], 0, .ro))], 2⟩
def f40.s0.des : ∀ α : Type, (f40.Ty2) → (Ex → VS → Option α) → Option α := (des1 (.exit 0) f40.s0.o0)
def f40.s0.out : f40.Ty2 → Ex × VS := (fun y => (.exit 0, f40.s0.o0 y))
theorem f40.s0.desOK : ∀ α y (k : Ex → VS → Option α), f40.s0.des α y k = k (f40.s0.out y).1 (f40.s0.out y).2 := (fun _ _ _ => rfl)
def f40.s0.inY : Ex → VS → Option (f40.Ty2)
  | .exit 0, ⟨[(5, .int .u32 t5)], [(0, ([.ints .i64 b0_0 b0_1], 0, .ro))], 2⟩ => some (t5, b0_0, b0_1)
  | _, _ => none
def f40.lp (K : Nat) : Nat → Option (Hint × Summ) := tabLp [(0, f40.s0.h, summOf (iter (f40.s0 K) K) f40.s0.inX f40.s0.des)]
noncomputable def f40.tab (K : Nat) : List (Nat × Entry) := [(45, (f45.E K))]
theorem f40.tabOK (K : Nat) : SpecOK Tryd.prog (tabSp (f40.tab K)) := tab_ok ((tab_cons (f45.ok K) tab_nil))
theorem f40.s0.eq (K : Nat) (rec : f40.Ty0 → Option (f40.Ty2)) (x : f40.Ty0) : f40.s0 K rec x = roundL (getA tys) (tabSp (f40.tab K)) 22 2 (f40.lp K) 400 f40.s0.b f40.s0.h f40.s0.ho f40.s0.shp f40.s0.inX f40.s0.inY rec x := by kernel_rfl
theorem f40.s0.lok (K : Nat) : LoopsOK Tryd.prog 22 2 (f40.lp K) f40.s0.b := loops_ok (by
  have h : loopsIn (f40.lp K) f40.s0.b = [] := by kernel_rfl
  rw [h]; simp)
theorem f40.s0.ok (K : Nat) : SummOK Tryd.prog 22 2 (summOf (iter (f40.s0 K) K) f40.s0.inX f40.s0.des) f40.s0.b :=
  loop_ok mix tys_ok (f40.tabOK K) (h := f40.s0.h) (ho := f40.s0.ho) (shp := f40.s0.shp) (inX := f40.s0.inX) (des := f40.s0.des) (out := f40.s0.out) (inY := f40.s0.inY) (fuel := 400)
    (by intro st x h; unfold f40.s0.inX at h; split at h <;> simp at h; subst h; rfl)
    (by intro e st y h; unfold f40.s0.inY at h; split at h <;> simp at h <;> subst h <;> rfl)
    f40.s0.desOK (f40.s0.lok K) (f40.s0 K) (f40.s0.eq K) K
theorem f40.loops (K : Nat) : LoopsOK Tryd.prog 22 2 (f40.lp K) f40.c := loops_ok (by
  have h : loopsIn (f40.lp K) f40.c = [(0, f40.s0.b)] := by kernel_rfl
  rw [h]
  intro p hp
  simp only [List.mem_cons, List.not_mem_nil, or_false] at hp
  rcases hp with rfl
  · exact ⟨_, rfl, (f40.s0.ok K)⟩)
def f40.T (K : Nat) (a0 : Int) (a1 : Nat) (m0_0 : Nat) (m0_1 : List Int) : Option (f40.Ty2) :=
  (iter (f40.s0 K) K (a0, 0, a1, ((a1 : Nat) : Int), 0, m0_0, m0_1)).bind fun y9 =>
  some (y9.1, y9.2.1, y9.2.2)
def f40.F (K : Nat) (x : f40.Ty1) : Option (f40.Ty2) := f40.T K x.1 x.2.1 x.2.2.1 x.2.2.2
def f40.av (x : f40.Ty1) : List VV := [.int .u32 x.1, .vw true 0 0 x.2.1 1]
def f40.bl (x : f40.Ty1) : List (Nat × Blk) := [(0, ([.ints .i64 x.2.2.1 x.2.2.2], 0, .ro))]
def f40.inA : VS → Option (f40.Ty1)
  | ⟨[(0, .int .u32 a0), (1, .vw true 0 0 a1 1)], [(0, ([.ints .i64 m0_0 m0_1], 0, .ro))], 2⟩ => some (a0, a1, m0_0, m0_1)
  | _ => none
def f40.o0 (y : f40.Ty2) : VS := ⟨[(0, .int .u32 y.1)], [(0, ([.ints .i64 y.2.1 y.2.2], 0, .ro))], 2⟩
def f40.des : ∀ α : Type, (f40.Ty2) → (VS → Option α) → Option α := (dv1 f40.o0)
def f40.out : f40.Ty2 → VS := f40.o0
def f40.inR : VS → Option (f40.Ty2)
  | ⟨[(0, .int .u32 y)], [(0, ([.ints .i64 z0_0 z0_1], 0, .ro))], 2⟩ => some (y, z0_0, z0_1)
  | _ => none
noncomputable def f40.E (K : Nat) : Entry := genE 2 f40.inA (f40.F K) f40.des
theorem f40.eq (K : Nat) (x : f40.Ty1) : f40.F K x = xrun (getA tys) (tabSp (f40.tab K)) Tryd.f40.ntmps 2 (f40.lp K) 400 f40.c ⟨initL 0 (f40.av x), f40.bl x, 2⟩ (contF (getA tys) 2 Tryd.f40.results.toList f40.inR) := by kernel_rfl
theorem f40.ok (K : Nat) : EntryOK Tryd.prog 40 (f40.E K) :=
  gen_ok mix tys_ok (f40.tabOK K) Tryd.func40 (by kernel_rfl : Tryd.f40.body = some f40.c) (by kernel_rfl) (f40.loops K) (av := f40.av) (bl := f40.bl) (out := f40.out) (fuel := 400)
    (by intro s x h; unfold f40.inA at h; split at h <;> simp at h; subst h; rfl) (fun _ => Nat.le_of_ble_eq_true rfl)
    (by intro s y h; unfold f40.inR at h; split at h <;> simp at h <;> subst h <;> rfl) (fun _ _ _ => rfl) (f40.eq K)
end Go.Proofs

namespace Go.Proofs
open Go.VM
abbrev f44.Ty0 := Int × Int × Nat × List Int × List Int
abbrev f44.Ty1 := Int × Int × Nat × List Int
abbrev f44.Ty2 := Nat × Int × Nat × List Int
abbrev f44.Ty3 := Int × Nat × List Int
noncomputable def f44.c : Code := bodyOf Tryd.f44
def f44.s0t (_K : Nat) (rec : f44.Ty0 → Option (f44.Ty3)) (t4 : Int) (t23 : Int) (b0_0 : Nat) (b0_1 : List Int) (b2 : List Int) : Option (f44.Ty3) :=
  bif (decide (t23 < 8)) then
    bif decide (0 ≤ t23 ∧ t23 < 8) then
      rec ((IntKind.wrap .u64 ((IntKind.wrap .u64 (256 * t4)) + (IntKind.wrap .u64 (List.getD b2 (Int.toNat t23) 0)))), (IntKind.wrap .i64 (t23 + 1)), b0_0, b0_1, b2)
    else
      none
  else
    some (t4, b0_0, b0_1)
def f44.s0 (K : Nat) (rec : f44.Ty0 → Option (f44.Ty3)) (x : f44.Ty0) : Option (f44.Ty3) := f44.s0t K rec x.1 x.2.1 x.2.2.1 x.2.2.2.1 x.2.2.2.2
noncomputable def f44.s0.b : Code := (findLoop 0 f44.c).getD .skip
def f44.s0.h : Hint := { lv := [4, 6, 23] }
def f44.s0.ho : Hint := { lv := [4] }
def f44.s0.shp (x : f44.Ty0) : VS := ⟨[(4, .int .u64 x.1), (6, .ptr 2 0), (23, .int .i64 x.2.1)], [(0, ([.ints .u8 x.2.2.1 x.2.2.2.1], 0, .ro)), (2, ([.ints .u8 8 x.2.2.2.2], 91, .norm))], 3⟩
def f44.s0.inX : VS → Option (f44.Ty0)
  | ⟨[(4, .int .u64 t4), (6, .ptr 2 0), (23, .int .i64 t23)], [(0, ([.ints .u8 b0_0 b0_1], 0, .ro)), (2, ([.ints .u8 8 b2], 91, .norm))], 3⟩ => some (t4, t23, b0_0, b0_1, b2)
  | _ => none
def f44.s0.o0 (y : f44.Ty3) : VS := ⟨[(4, .int .u64 y.1)], [(0, ([.ints .u8 y.2.1 y.2.2], 0, .ro))], 2⟩
def f44.s0.des : ∀ α : Type, (f44.Ty3) → (Ex → VS → Option α) → Option α := (des1 (.exit 0) f44.s0.o0)
def f44.s0.out : f44.Ty3 → Ex × VS := (fun y => (.exit 0, f44.s0.o0 y))
theorem f44.s0.desOK : ∀ α y (k : Ex → VS → Option α), f44.s0.des α y k = k (f44.s0.out y).1 (f44.s0.out y).2 := (fun _ _ _ => rfl)
def f44.s0.inY : Ex → VS → Option (f44.Ty3)
  | .exit 0, ⟨[(4, .int .u64 t4)], [(0, ([.ints .u8 b0_0 b0_1], 0, .ro))], 2⟩ => some (t4, b0_0, b0_1)
  | _, _ => none
def f44.lp (K : Nat) : Nat → Option (Hint × Summ) := tabLp [(0, f44.s0.h, summOf (iter (f44.s0 K) K) f44.s0.inX f44.s0.des)]
noncomputable def f44.tab (_K : Nat) : List (Nat × Entry) := []
theorem f44.tabOK (K : Nat) : SpecOK Tryd.prog (tabSp (f44.tab K)) := tab_ok ( tab_nil)
theorem f44.s0.eq (K : Nat) (rec : f44.Ty0 → Option (f44.Ty3)) (x : f44.Ty0) : f44.s0 K rec x = roundL (getA tys) (tabSp (f44.tab K)) 35 2 (f44.lp K) 400 f44.s0.b f44.s0.h f44.s0.ho f44.s0.shp f44.s0.inX f44.s0.inY rec x := by kernel_rfl
theorem f44.s0.lok (K : Nat) : LoopsOK Tryd.prog 35 2 (f44.lp K) f44.s0.b := loops_ok (by
  have h : loopsIn (f44.lp K) f44.s0.b = [] := by kernel_rfl
  rw [h]; simp)
theorem f44.s0.ok (K : Nat) : SummOK Tryd.prog 35 2 (summOf (iter (f44.s0 K) K) f44.s0.inX f44.s0.des) f44.s0.b :=
  loop_ok mix tys_ok (f44.tabOK K) (h := f44.s0.h) (ho := f44.s0.ho) (shp := f44.s0.shp) (inX := f44.s0.inX) (des := f44.s0.des) (out := f44.s0.out) (inY := f44.s0.inY) (fuel := 400)
    (by intro st x h; unfold f44.s0.inX at h; split at h <;> simp at h; subst h; rfl)
    (by intro e st y h; unfold f44.s0.inY at h; split at h <;> simp at h <;> subst h <;> rfl)
    f44.s0.desOK (f44.s0.lok K) (f44.s0 K) (f44.s0.eq K) K
theorem f44.loops (K : Nat) : LoopsOK Tryd.prog 35 2 (f44.lp K) f44.c := loops_ok (by
  have h : loopsIn (f44.lp K) f44.c = [(0, f44.s0.b)] := by kernel_rfl
  rw [h]
  intro p hp
  simp only [List.mem_cons, List.not_mem_nil, or_false] at hp
  rcases hp with rfl
  · exact ⟨_, rfl, (f44.s0.ok K)⟩)
def f44.T (K : Nat) (a0 : Nat) (a1 : Int) (m0_0 : Nat) (m0_1 : List Int) : Option (f44.Ty1) :=
  bif (decide (a1 < 0)) then
    some (0, 1, m0_0, m0_1)
  else
    bif (decide (a1 > 8)) then
      some (0, 1, m0_0, m0_1)
    else
      bif (decide (((a0 : Nat) : Int) < a1)) then
        some (0, 5, m0_0, m0_1)
      else
        let v5 := IntKind.wrap .i64 (8 - a1)
        bif decide (0 ≤ v5 ∧ v5 ≤ 8) then
          let v6 := bif Nat.beq 8 (Int.toNat v5) then 0 else 0 + (Int.toNat v5)
          let v7 := 8 - (Int.toNat v5)
          bif ((Nat.ble (0 + a0) m0_0 && (Nat.ble (v6 + v7) 8)) && (Nat.beq a0 a0)) then
            (iter (f44.s0 K) K (0, 0, m0_0, m0_1, (spl [0, 0, 0, 0, 0, 0, 0, 0] v6 (Nat.min a0 v7) (subI m0_1 0 a0)))).bind fun y18 =>
            some (y18.1, 0, y18.2.1, y18.2.2)
          else
            none
        else
          none
def f44.F (K : Nat) (x : f44.Ty2) : Option (f44.Ty1) := f44.T K x.1 x.2.1 x.2.2.1 x.2.2.2
def f44.av (x : f44.Ty2) : List VV := [.vw true 0 0 x.1 1, .int .i64 x.2.1]
def f44.bl (x : f44.Ty2) : List (Nat × Blk) := [(0, ([.ints .u8 x.2.2.1 x.2.2.2], 0, .ro))]
def f44.inA : VS → Option (f44.Ty2)
  | ⟨[(0, .vw true 0 0 a0 1), (1, .int .i64 a1)], [(0, ([.ints .u8 m0_0 m0_1], 0, .ro))], 2⟩ => some (a0, a1, m0_0, m0_1)
  | _ => none
def f44.o0 (y : f44.Ty1) : VS := ⟨[(0, .tup [.int .u64 y.1, .int .i64 y.2.1])], [(0, ([.ints .u8 y.2.2.1 y.2.2.2], 0, .ro))], 2⟩
def f44.des : ∀ α : Type, (f44.Ty1) → (VS → Option α) → Option α := (dv1 f44.o0)
def f44.out : f44.Ty1 → VS := f44.o0
def f44.inR : VS → Option (f44.Ty1)
  | ⟨[(0, .tup [.int .u64 y_0, .int .i64 y_1])], [(0, ([.ints .u8 z0_0 z0_1], 0, .ro))], 2⟩ => some (y_0, y_1, z0_0, z0_1)
  | _ => none
noncomputable def f44.E (K : Nat) : Entry := genE 2 f44.inA (f44.F K) f44.des
theorem f44.eq (K : Nat) (x : f44.Ty2) : f44.F K x = xrun (getA tys) (tabSp (f44.tab K)) Tryd.f44.ntmps 2 (f44.lp K) 400 f44.c ⟨initL 0 (f44.av x), f44.bl x, 2⟩ (contF (getA tys) 2 Tryd.f44.results.toList f44.inR) := by kernel_rfl
theorem f44.ok (K : Nat) : EntryOK Tryd.prog 44 (f44.E K) :=
  gen_ok mix tys_ok (f44.tabOK K) Tryd.func44 (by kernel_rfl : Tryd.f44.body = some f44.c) (by kernel_rfl) (f44.loops K) (av := f44.av) (bl := f44.bl) (out := f44.out) (fuel := 400)
    (by intro s x h; unfold f44.inA at h; split at h <;> simp at h; subst h; rfl) (fun _ => Nat.le_of_ble_eq_true rfl)
    (by intro s y h; unfold f44.inR at h; split at h <;> simp at h <;> subst h <;> rfl) (fun _ _ _ => rfl) (f44.eq K)
end Go.Proofs

namespace Go.Proofs
open Go.VM
abbrev f23.Ty0 := Nat × Nat × Nat × List Int × Nat × List Int
abbrev f23.Ty1 := Nat × Int × Int × Nat × List Int
def f23.T (K : Nat) (a0 : Nat) (a1 : Int) (a2 : Int) (m0_0 : Nat) (m0_1 : List Int) : Option (f23.Ty0) :=
  bif ((Nat.ble (0 + a0) m0_0 && true) && true) then
    (f25.F K (a0, (maxE 0 (minE 8 a2)), 1, a0, (subI m0_1 0 a0), 1, [a1])).bind fun y2 =>
    some (y2.1, y2.2.1, m0_0, m0_1, y2.2.2.2.2.2.2.1, y2.2.2.2.2.2.2.2)
  else
    none
def f23.F (K : Nat) (x : f23.Ty1) : Option (f23.Ty0) := f23.T K x.1 x.2.1 x.2.2.1 x.2.2.2.1 x.2.2.2.2
def f23.av (x : f23.Ty1) : List VV := [.vw true 0 0 x.1 1, .int .u64 x.2.1, .int .i64 x.2.2.1]
def f23.bl (x : f23.Ty1) : List (Nat × Blk) := [(0, ([.ints .u8 x.2.2.2.1 x.2.2.2.2], 0, .ro))]
def f23.inA : VS → Option (f23.Ty1)
  | ⟨[(0, .vw true 0 0 a0 1), (1, .int .u64 a1), (2, .int .i64 a2)], [(0, ([.ints .u8 m0_0 m0_1], 0, .ro))], 2⟩ => some (a0, a1, a2, m0_0, m0_1)
  | _ => none
def f23.o0 (y : f23.Ty0) : VS := ⟨[(0, .sl 2 0 y.1 y.2.1)], [(0, ([.ints .u8 y.2.2.1 y.2.2.2.1], 0, .ro)), (2, ([.ints .u8 y.2.2.2.2.1 y.2.2.2.2.2], 5, .norm))], 3⟩
def f23.inR : VS → Option (f23.Ty0)
  | ⟨[(0, .sl 2 0 y_0 y_1)], [(0, ([.ints .u8 z0_0 z0_1], 0, .ro)), (2, ([.ints .u8 z2_0 z2_1], 5, .norm))], 3⟩ => some (y_0, y_1, z0_0, z0_1, z2_0, z2_1)
  | _ => none
noncomputable def f23.E (K : Nat) : Entry := genE 2 f23.inA (f23.F K) (dv1 f23.o0)
theorem f23.ok (K : Nat) : EntryOK Tryd.prog 23 (f23.E K) := gen_ok mix tys_ok (sp := tabSp [(25, (viewE [(0, .u8), (2, .u64)] (f25.E K)))]) (tab_ok ((tab_cons (view_ok (f25.ok K)) tab_nil))) Tryd.func23 (c := bodyOf Tryd.f23) (by kernel_rfl) (by kernel_rfl) (loops_none (lp := lpNone) (by kernel_rfl)) (av := f23.av) (bl := f23.bl) (inR := f23.inR) (out := f23.o0) (fuel := 400)
  (by intro s x h; unfold f23.inA at h; split at h <;> simp at h; subst h; rfl) (fun _ => Nat.le_of_ble_eq_true rfl)
  (by intro s y h; unfold f23.inR at h; split at h <;> simp at h <;> subst h <;> rfl) (fun _ _ _ => rfl) (fun _ => by kernel_rfl)
end Go.Proofs

namespace Go.Proofs
open Go.VM
abbrev f15.Ty0 := Nat × Nat × Nat × List Int × Nat × List Int
abbrev f15.Ty1 := Nat × List Int × Nat × List Int
def f15.T (K : Nat) (a0 : Nat) (a1 : List Int) (m0_0 : Nat) (m0_1 : List Int) : Option (f15.Ty0) :=
  bif ((Nat.ble (0 + a0) m0_0 && true) && true) then
    (f25.F K (a0, 8, 4, a0, (subI m0_1 0 a0), 4, [(List.getD a1 3 0), (List.getD a1 2 0), (List.getD a1 1 0), (List.getD a1 0 0)])).bind fun y5 =>
    some (y5.1, y5.2.1, m0_0, m0_1, y5.2.2.2.2.2.2.1, y5.2.2.2.2.2.2.2)
  else
    none
def f15.F (K : Nat) (x : f15.Ty1) : Option (f15.Ty0) := f15.T K x.1 x.2.1 x.2.2.1 x.2.2.2
def f15.av (x : f15.Ty1) : List VV := [.vw true 0 0 x.1 1, .agg [.ints .u64 4 x.2.1]]
def f15.bl (x : f15.Ty1) : List (Nat × Blk) := [(0, ([.ints .u8 x.2.2.1 x.2.2.2], 0, .ro))]
def f15.inA : VS → Option (f15.Ty1)
  | ⟨[(0, .vw true 0 0 a0 1), (1, .agg [.ints .u64 4 a1])], [(0, ([.ints .u8 m0_0 m0_1], 0, .ro))], 2⟩ => some (a0, a1, m0_0, m0_1)
  | _ => none
def f15.o0 (y : f15.Ty0) : VS := ⟨[(0, .sl 2 0 y.1 y.2.1)], [(0, ([.ints .u8 y.2.2.1 y.2.2.2.1], 0, .ro)), (2, ([.ints .u8 y.2.2.2.2.1 y.2.2.2.2.2], 5, .norm))], 3⟩
def f15.inR : VS → Option (f15.Ty0)
  | ⟨[(0, .sl 2 0 y_0 y_1)], [(0, ([.ints .u8 z0_0 z0_1], 0, .ro)), (2, ([.ints .u8 z2_0 z2_1], 5, .norm))], 3⟩ => some (y_0, y_1, z0_0, z0_1, z2_0, z2_1)
  | _ => none
noncomputable def f15.E (K : Nat) : Entry := genE 2 f15.inA (f15.F K) (dv1 f15.o0)
theorem f15.ok (K : Nat) : EntryOK Tryd.prog 15 (f15.E K) := gen_ok mix tys_ok (sp := tabSp [(25, (viewE [(0, .u8), (2, .u64)] (f25.E K)))]) (tab_ok ((tab_cons (view_ok (f25.ok K)) tab_nil))) Tryd.func15 (c := bodyOf Tryd.f15) (by kernel_rfl) (by kernel_rfl) (loops_none (lp := lpNone) (by kernel_rfl)) (av := f15.av) (bl := f15.bl) (inR := f15.inR) (out := f15.o0) (fuel := 400)
  (by intro s x h; unfold f15.inA at h; split at h <;> simp at h; subst h; rfl) (fun _ => Nat.le_of_ble_eq_true rfl)
  (by intro s y h; unfold f15.inR at h; split at h <;> simp at h <;> subst h <;> rfl) (fun _ _ _ => rfl) (fun _ => by kernel_rfl)
end Go.Proofs

namespace Go.Proofs
open Go.VM
theorem low_be : ∀ n x : Nat, x < 18446744073709551616 → Rw.low n (x : Int) = be n x
  | 0, _, _ => rfl
  | n + 1, x, h => by
    have e : Rw.nxt (x : Int) = ((x / 256 : Nat) : Int) := by
      rw [Rw.nxt, show (256 : Int) = ((256 : Nat) : Int) from rfl, tdiv_nat, wrap_u _ (by omega) (by omega)]
    rw [Rw.low, e, low_be n (x / 256) (by omega), be, Rw.byt]
    rfl
theorem octets_pad {l : List Int} (h : octets l) (n : Nat) : octets (padT l n) := by
  intro x hx
  simp only [padT, List.mem_map, List.mem_range] at hx
  obtain ⟨i, _, rfl⟩ := hx
  rw [List.getD_eq_getElem?_getD]
  cases e : l[i]? with
  | none => simp
  | some y => exact h y (List.mem_of_getElem? e)
theorem octets_sub {l : List Int} (h : octets l) (i n : Nat) : octets (subI l i n) := by
  intro x hx
  simp only [subI, List.mem_map, List.mem_range] at hx
  obtain ⟨j, _, rfl⟩ := hx
  rw [List.getD_eq_getElem?_getD]
  cases e : l[i + j]? with
  | none => simp
  | some y => exact h y (List.mem_of_getElem? e)
theorem octets_spl {l m : List Int} (h : octets l) (h2 : octets m) (i n : Nat) : octets (spl l i n m) := by
  rw [spl]
  exact octets_append (octets_append (octets_pad h _) (octets_pad h2 _)) fun x hx => h x (List.mem_of_mem_drop hx)
theorem subI_length (l : List Int) (i n : Nat) : (subI l i n).length = n := by simp [subI]
theorem row_flat (e : Nat) : ∀ (xs : List Nat), (∀ x ∈ xs, x < 18446744073709551616) → (xs.map fun x : Nat => (x : Int)).flatMap (Rw.low e) = xs.flatMap (be e)
  | [], _ => rfl
  | x :: xs, h => by
    rw [List.map_cons, List.flatMap_cons, List.flatMap_cons, row_flat e xs fun y hy => h y (List.mem_cons_of_mem _ hy), low_be e x (h x List.mem_cons_self)]
theorem f25.spec (K a e m : Nat) (l : List Int) (xs : List Nat) (hl : l.length = a) (hm : xs.length = m) (hx : ∀ x ∈ xs, x < 18446744073709551616) (he : e ≤ 8) (ha : a + e * m ≤ 140737488355328) (hm2 : m ≤ 1000000000) :
    f25.F K (a, (e : Int), m, a, l, m, xs.map fun x : Nat => (x : Int)) = some (a + e * m, a + e * m, a, l, m, (xs.map fun x : Nat => (x : Int)), a + e * m, l ++ xs.flatMap (be e)) := by
  rw [f25.F]
  simp only [Int.toNat_natCast]
  rw [show Nat.beq a a = true from Nat.beq_refl a, show Nat.beq m m = true from Nat.beq_refl m, decide_eq_true (show (0 : Int) ≤ (e : Int) ∧ (e : Int) ≤ 8 by omega), ble_true ha, ble_true (show m * 8 ≤ 140737488351232 by omega),
    Bool.and_self, Bool.and_self, Bool.and_self, Bool.and_self, cond_t, padT_self l hl, padT_self _ (by simpa using hm), row_flat e xs hx]
theorem f23.spec (K a n x : Nat) (l : List Int) (hl : l.length = a) (hx : x < 18446744073709551616) (hn : n ≤ 8) (ha : a ≤ 1000000000) :
    f23.F K (a, (x : Int), (n : Int), a, l) = some (a + n, a + n, a, l, a + n, l ++ be n x) := by
  have e1 : maxE 0 (minE 8 (n : Int)) = (n : Int) := by
    unfold maxE minE
    rcases Nat.lt_or_ge n 8 with h | h
    · rw [decide_eq_true (show (n : Int) < 8 by omega), cond_t]
      rcases Nat.eq_zero_or_pos n with h0 | h0
      · subst h0; rfl
      · rw [decide_eq_true (show (n : Int) > 0 by omega), cond_t]
    · have : n = 8 := by omega
      subst this; rfl
  have e2 := f25.spec K a n 1 l [x] hl rfl (by simpa using hx) hn (by omega) (by omega)
  simp only [List.map_cons, List.map_nil, List.flatMap_cons, List.flatMap_nil, List.append_nil, Nat.mul_one] at e2
  simp only [f23.F, f23.T]
  rw [Nat.zero_add, ble_true (Nat.le_refl a), Bool.and_self, Bool.and_self, cond_t, e1, subI_self l hl, e2, bind_s]
theorem be_flat4 (A : Nat) (hA : A < 2 ^ 256) : [A / 2 ^ 192 % 2 ^ 64, A / 2 ^ 128 % 2 ^ 64, A / 2 ^ 64 % 2 ^ 64, A % 2 ^ 64].flatMap (be 8) = be 32 A := by
  have q : (256 : Nat) ^ 8 = 2 ^ 64 := by decide
  have h1 : be 32 A = be 24 (A / 2 ^ 64) ++ be 8 A := by rw [show (32 : Nat) = 24 + 8 from rfl, be_add, q]
  have h2 : be 24 (A / 2 ^ 64) = be 16 (A / 2 ^ 128) ++ be 8 (A / 2 ^ 64) := by rw [show (24 : Nat) = 16 + 8 from rfl, be_add, q, Nat.div_div_eq_div_mul, ← Nat.pow_add]
  have h3 : be 16 (A / 2 ^ 128) = be 8 (A / 2 ^ 192) ++ be 8 (A / 2 ^ 128) := by rw [show (16 : Nat) = 8 + 8 from rfl, be_add, q, Nat.div_div_eq_div_mul, ← Nat.pow_add]
  have m : ∀ y, be 8 (y % 2 ^ 64) = be 8 y := fun y => by rw [← q, be_mod]
  simp only [List.flatMap_cons, List.flatMap_nil, List.append_nil, m]
  rw [h1, h2, h3, List.append_assoc, List.append_assoc]
theorem f15.spec (K a A : Nat) (l : List Int) (hl : l.length = a) (hA : A < 2 ^ 256) (ha : a ≤ 1000000000) :
    f15.F K (a, num A, a, l) = some (a + 32, a + 32, a, l, a + 32, l ++ be 32 A) := by
  have e2 := f25.spec K a 8 4 l [A / 2 ^ 192 % 2 ^ 64, A / 2 ^ 128 % 2 ^ 64, A / 2 ^ 64 % 2 ^ 64, A % 2 ^ 64] hl rfl
    (by intro x hx; simp only [List.mem_cons, List.not_mem_nil, or_false] at hx; rcases hx with rfl | rfl | rfl | rfl <;> exact Nat.mod_lt _ (by decide)) (by omega) (by omega) (by omega)
  rw [be_flat4 A hA] at e2
  simp only [List.map_cons, List.map_nil] at e2
  simp only [f15.F, f15.T]
  rw [Nat.zero_add, ble_true (Nat.le_refl a), Bool.and_self, Bool.and_self, cond_t, subI_self l hl, getD_words (by decide : 3 < 4), getD_words (by decide : 2 < 4), getD_words (by decide : 1 < 4), getD_words (by decide : 0 < 4)]
  rw [show 64 * 3 = 192 from rfl, show 64 * 2 = 128 from rfl, show 64 * 1 = 64 from rfl, show 64 * 0 = 0 from rfl, Nat.pow_zero, Nat.div_one]
  rw [show ((8 : Int)) = ((8 : Nat) : Int) from rfl, e2, bind_s]
theorem take_snoc {l : List Int} {i : Nat} (h : i < l.length) : l.take (i + 1) = l.take i ++ [l.getD i 0] := by
  rw [List.take_add_one, List.getD_eq_getElem?_getD, List.getElem?_eq_getElem h]; rfl
theorem tv_zeros : ∀ n, tv (List.replicate n 0) = 0
  | 0 => rfl
  | n + 1 => by rw [List.replicate_succ', tv_snoc, tv_zeros n]; rfl
theorem octets_zeros (n : Nat) : octets (List.replicate n 0) := fun x hx => by rw [List.mem_replicate] at hx; omega
theorem f44.loop (K n : Nat) (l b : List Int) (hb : b.length = 8) (ho : octets b) (hK : 8 < K) : iter (f44.s0 K) K (0, 0, n, l, b) = some (((tv b : Nat) : Int), n, l) := by
  have := iter_for (stp := f44.s0 K) (N := 8) (fun i => (((tv (b.take i) : Nat) : Int), (i : Int), n, l, b)) (y := some (((tv b : Nat) : Int), n, l)) ?_ ?_ hK
  · exact this
  · intro i hi rec
    simp only [f44.s0, f44.s0t]
    have hg := ho (b.getD i 0) (by rw [List.getD_eq_getElem?_getD, List.getElem?_eq_getElem (by omega)]; exact List.getElem_mem _)
    have h1 : tv (b.take i) < 256 ^ i := tv_lt i _ (by simp; omega) fun x hx => ho x (List.mem_of_mem_take hx)
    have h2 : (256 : Nat) ^ i ≤ 256 ^ 7 := Nat.pow_le_pow_right (by decide) (by omega)
    have h3 : (256 : Nat) ^ 7 = 72057594037927936 := by decide
    have e5 : (256 : Int) * ((tv (b.take i) : Nat) : Int) = ((256 * tv (b.take i) : Nat) : Int) := by rw [Int.natCast_mul]; rfl
    rw [decide_eq_true (show (i : Int) < 8 by omega), cond_t, decide_eq_true (show (0 : Int) ≤ (i : Int) ∧ (i : Int) < 8 by omega), cond_t, Int.toNat_natCast, e5, wrap_u ((256 * tv (b.take i) : Nat) : Int) (by omega) (by omega), wrap_u (b.getD i 0) (by omega) (by omega), wrap_u (((256 * tv (b.take i) : Nat) : Int) + b.getD i 0) (by omega) (by omega), wrap_i _ (by omega) (by omega), take_snoc (by omega), tv_snoc]
    congr 2
    omega
  · intro rec
    simp only [f44.s0, f44.s0t]
    rw [List.take_of_length_le (by omega)]
    rfl
theorem f44.spec (K n m : Nat) (l : List Int) (hl : l.length = n) (ho : octets l) (hm : 1 ≤ m) (hm8 : m ≤ 8) (hn : m ≤ n) (hK : 8 < K) : f44.F K (n, (m : Int), n, l) = some (((tv (l.take m) : Nat) : Int), 0, n, l) := by
  simp only [f44.F, f44.T]
  have e : IntKind.wrap .i64 (8 - (m : Int)) = ((8 - m : Nat) : Int) := by rw [wrap_i _ (by omega) (by omega)]; omega
  have e6 : (bif Nat.beq 8 (8 - m) then 0 else 0 + (8 - m)) = 8 - m := by
    rw [show Nat.beq 8 (8 - m) = false from (by rw [← Bool.not_eq_true, Nat.beq_eq]; omega), cond_f, Nat.zero_add]
  have e7 : spl [0, 0, 0, 0, 0, 0, 0, 0] (8 - m) (Nat.min n (8 - (8 - m))) (subI l 0 n) = List.replicate (8 - m) 0 ++ l.take m := by
    have q : Nat.min n (8 - (8 - m)) = m := by show min n _ = m; omega
    rw [q, subI_self l hl, spl, List.drop_of_length_le (by simp; omega), List.append_nil]
    congr 1
    · refine List.ext_getElem? fun i => ?_
      by_cases hi : i < 8 - m
      · have : i < 8 := by omega
        rw [List.getElem?_replicate, if_pos hi]
        simp only [padT, List.getElem?_map, List.getElem?_range hi, Option.map_some]
        congr 1
        match i, this with
        | 0, _ | 1, _ | 2, _ | 3, _ | 4, _ | 5, _ | 6, _ | 7, _ => rfl
      · rw [List.getElem?_eq_none (by simpa [padT] using hi), List.getElem?_eq_none (by simpa using hi)]
    · refine List.ext_getElem? fun i => ?_
      rw [List.getElem?_take]
      by_cases hi : i < m
      · rw [if_pos hi]
        have : i < l.length := by omega
        simp [padT, hi, this]
      · rw [if_neg hi, List.getElem?_eq_none (by simpa [padT] using hi)]
  rw [decide_eq_false (show ¬ (m : Int) < 0 by omega), cond_f, decide_eq_false (show ¬ (m : Int) > 8 by omega), cond_f, decide_eq_false (show ¬ ((n : Nat) : Int) < (m : Int) by omega), cond_f, e, decide_eq_true (show (0 : Int) ≤ ((8 - m : Nat) : Int) ∧ ((8 - m : Nat) : Int) ≤ 8 by omega), cond_t]
  simp only [Int.toNat_natCast]
  rw [e6, e7, Nat.zero_add, ble_true (Nat.le_refl n), ble_true (show 8 - m + (8 - (8 - m)) ≤ 8 by omega), show Nat.beq n n = true from Nat.beq_refl n, Bool.and_self, Bool.and_self, cond_t,
    f44.loop K n l _ (by simp; omega) (octets_append (octets_zeros _) fun x hx => ho x (List.mem_of_mem_take hx)) hK, bind_s, tv_append, tv_zeros, Nat.zero_mul, Nat.zero_add]
end Go.Proofs

namespace Go.Proofs
open Go.VM
abbrev f38.Ty0 := List Int × Int × Int × List Int × List Int × Int
abbrev f38.Ty1 := List Int × Int × Int × List Int
def f38.T (_K : Nat) (m0_0 : List Int) (m0_1 : Int) (m0_2 : Int) (m1 : List Int) : Option (f38.Ty0) :=
  some (m0_0, m0_1, m0_2, m1, [0, 0, 0, 0, 0, 0, 0, 0, 0, 0, 0, 0, 0, 0, 0, 0], 0)
def f38.F (K : Nat) (x : f38.Ty1) : Option (f38.Ty0) := f38.T K x.1 x.2.1 x.2.2.1 x.2.2.2
def f38.av (_x : f38.Ty1) : List VV := [.ptr 0 1]
def f38.bl (x : f38.Ty1) : List (Nat × Blk) := [(0, ([.ptr 1 0, .ints .u8 64 x.1, .int .i64 x.2.1, .int .u64 x.2.2.1], 66, .norm)), (1, ([.ints .u32 8 x.2.2.2], 61, .norm))]
def f38.inA : VS → Option (f38.Ty1)
  | ⟨[(0, .ptr 0 1)], [(0, ([.ptr 1 0, .ints .u8 64 m0_0, .int .i64 m0_1, .int .u64 m0_2], 66, .norm)), (1, ([.ints .u32 8 m1], 61, .norm))], 2⟩ => some (m0_0, m0_1, m0_2, m1)
  | _ => none
def f38.o0 (y : f38.Ty0) : VS := ⟨[(0, .fn 43 [.ptr 2 0, .ptr 3 0, .ptr 4 0])], [(0, ([.ptr 1 0, .ints .u8 64 y.1, .int .i64 y.2.1, .int .u64 y.2.2.1], 66, .norm)), (1, ([.ints .u32 8 y.2.2.2.1], 61, .norm)), (2, ([.ints .u32 16 y.2.2.2.2.1], 85, .norm)), (3, ([.int .i64 y.2.2.2.2.2], 3, .norm)), (4, ([.ptr 0 1], 68, .norm))], 5⟩
def f38.inR : VS → Option (f38.Ty0)
  | ⟨[(0, .fn 43 [.ptr 2 0, .ptr 3 0, .ptr 4 0])], [(0, ([.ptr 1 0, .ints .u8 64 z0_0, .int .i64 z0_1, .int .u64 z0_2], 66, .norm)), (1, ([.ints .u32 8 z1], 61, .norm)), (2, ([.ints .u32 16 z2], 85, .norm)), (3, ([.int .i64 z3], 3, .norm)), (4, ([.ptr 0 1], 68, .norm))], 5⟩ => some (z0_0, z0_1, z0_2, z1, z2, z3)
  | _ => none
noncomputable def f38.E (K : Nat) : Entry := genE 2 f38.inA (f38.F K) (dv1 f38.o0)
theorem f38.ok (K : Nat) : EntryOK Tryd.prog 38 (f38.E K) := gen_ok mix tys_ok (tab_ok ( tab_nil)) Tryd.func38 (c := bodyOf Tryd.f38) (by kernel_rfl) (by kernel_rfl) (loops_none (lp := lpNone) (by kernel_rfl)) (av := f38.av) (bl := f38.bl) (inR := f38.inR) (out := f38.o0) (fuel := 400)
  (by intro s x h; unfold f38.inA at h; split at h <;> simp at h; subst h; rfl) (fun _ => Nat.le_of_ble_eq_true rfl)
  (by intro s y h; unfold f38.inR at h; split at h <;> simp at h <;> subst h <;> rfl) (fun _ _ _ => rfl) (fun _ => by kernel_rfl)
end Go.Proofs

namespace Go.Proofs
open Go.VM
def f39.T (_K : Nat)  : Option (List Int) :=
  some ([1116352408, 1899447441, 3049323471, 3921009573, 961987163, 1508970993, 2453635748, 2870763221, 3624381080, 310598401, 607225278, 1426881987, 1925078388, 2162078206, 2614888103, 3248222580, 3835390401, 4022224774, 264347078, 604807628, 770255983, 1249150122, 1555081692, 1996064986, 2554220882, 2821834349, 2952996808, 3210313671, 3336571891, 3584528711, 113926993, 338241895, 666307205, 773529912, 1294757372, 1396182291, 1695183700, 1986661051, 2177026350, 2456956037, 2730485921, 2820302411, 3259730800, 3345764771, 3516065817, 3600352804, 4094571909, 275423344, 430227734, 506948616, 659060556, 883997877, 958139571, 1322822218, 1537002063, 1747873779, 1955562222, 2024104815, 2227730452, 2361852424, 2428436474, 2756734187, 3204031479, 3329325298])
def f39.F (K : Nat) (_x : Unit) : Option (List Int) := f39.T K
def f39.av (_x : Unit) : List VV := []
def f39.bl (_x : Unit) : List (Nat × Blk) := []
def f39.inA : VS → Option (Unit)
  | ⟨[], [], 0⟩ => some ()
  | _ => none
def f39.o0 (y : List Int) : VS := ⟨[(0, .agg [.ints .u32 64 y])], [], 0⟩
def f39.inR : VS → Option (List Int)
  | ⟨[(0, .agg [.ints .u32 64 y])], [], 0⟩ => some y
  | _ => none
noncomputable def f39.E (K : Nat) : Entry := genE 0 f39.inA (f39.F K) (dv1 f39.o0)
theorem f39.ok (K : Nat) : EntryOK Tryd.prog 39 (f39.E K) := gen_ok mix tys_ok (tab_ok ( tab_nil)) Tryd.func39 (c := bodyOf Tryd.f39) (by kernel_rfl) (by kernel_rfl) (loops_none (lp := lpNone) (by kernel_rfl)) (av := f39.av) (bl := f39.bl) (inR := f39.inR) (out := f39.o0) (fuel := 400)
  (by intro s x h; unfold f39.inA at h; split at h <;> simp at h; rfl) (fun _ => Nat.le_of_ble_eq_true rfl)
  (by intro s y h; unfold f39.inR at h; split at h <;> simp at h <;> subst h <;> rfl) (fun _ _ _ => rfl) (fun _ => by kernel_rfl)
end Go.Proofs

namespace Go.Proofs
open Go.VM
abbrev f43.Ty0 := Int × List Int × Int × List Int × Int × Int × List Int
abbrev f43.Ty1 := List Int × Int × List Int × Int × Int × List Int
def f43.T (K : Nat) (m0 : List Int) (m1 : Int) (m3_0 : List Int) (m3_1 : Int) (m3_2 : Int) (m4 : List Int) : Option (f43.Ty0) :=
  let v1 := Int.tmod m1 16
  bif decide (0 ≤ v1 ∧ v1 < 16) then
    let v2 := Int.toNat v1
    bif (decide (m1 < 16)) then
      let v4 := IntKind.wrap .i64 (4 * m1)
      bif decide (0 ≤ v4 ∧ v4 ≤ 64) then
        let v5 := bif Nat.beq 64 (Int.toNat v4) then 0 else (Int.toNat v4)
        let v6 := 64 - (Int.toNat v4)
        bif ((Nat.ble (v5 + v6) 64 && (Nat.ble v6 (64 - (Int.toNat v4)))) && true) then
          (f44.F K (v6, 4, v6, (subI m3_0 v5 v6))).bind fun y8 =>
          let v10 := setD m0 v2 (IntKind.wrap .u32 y8.1)
          some ((List.getD v10 v2 0), v10, (IntKind.wrap .i64 (m1 + 1)), m3_0, m3_1, m3_2, m4)
        else
          none
      else
        none
    else
      let v14 := Int.tmod (IntKind.wrap .i64 (m1 + 1)) 16
      bif decide (0 ≤ v14 ∧ v14 < 16) then
        let v16 := List.getD m0 (Int.toNat v14) 0
        let v18 := Int.tmod (IntKind.wrap .i64 (m1 + 14)) 16
        bif decide (0 ≤ v18 ∧ v18 < 16) then
          let v20 := List.getD m0 (Int.toNat v18) 0
          (f40.F K (v16, 2, 2, [7, 18])).bind fun y22 =>
          let v26 := setD m0 v2 (IntKind.wrap .u32 ((List.getD m0 v2 0) + (bits .xor .u32 y22.1 (Int.fdiv v16 (2 ^ 3)))))
          (f40.F K (v20, 2, 2, [17, 19])).bind fun y28 =>
          let v32 := setD v26 v2 (IntKind.wrap .u32 ((List.getD v26 v2 0) + (bits .xor .u32 y28.1 (Int.fdiv v20 (2 ^ 10)))))
          let v35 := Int.tmod (IntKind.wrap .i64 (m1 + 9)) 16
          bif decide (0 ≤ v35 ∧ v35 < 16) then
            let v39 := setD v32 v2 (IntKind.wrap .u32 ((List.getD v32 v2 0) + (List.getD v32 (Int.toNat v35) 0)))
            some ((List.getD v39 v2 0), v39, (IntKind.wrap .i64 (m1 + 1)), m3_0, m3_1, m3_2, m4)
          else
            none
        else
          none
      else
        none
  else
    none
def f43.F (K : Nat) (x : f43.Ty1) : Option (f43.Ty0) := f43.T K x.1 x.2.1 x.2.2.1 x.2.2.2.1 x.2.2.2.2.1 x.2.2.2.2.2
def f43.av (_x : f43.Ty1) : List VV := [.ptr 0 0, .ptr 1 0, .ptr 2 0]
def f43.bl (x : f43.Ty1) : List (Nat × Blk) := [(0, ([.ints .u32 16 x.1], 85, .norm)), (1, ([.int .i64 x.2.1], 3, .norm)), (2, ([.ptr 3 1], 68, .norm)), (3, ([.ptr 4 0, .ints .u8 64 x.2.2.1, .int .i64 x.2.2.2.1, .int .u64 x.2.2.2.2.1], 66, .norm)), (4, ([.ints .u32 8 x.2.2.2.2.2], 61, .norm))]
def f43.inA : VS → Option (f43.Ty1)
  | ⟨[(0, .ptr 0 0), (1, .ptr 1 0), (2, .ptr 2 0)], [(0, ([.ints .u32 16 m0], 85, .norm)), (1, ([.int .i64 m1], 3, .norm)), (2, ([.ptr 3 1], 68, .norm)), (3, ([.ptr 4 0, .ints .u8 64 m3_0, .int .i64 m3_1, .int .u64 m3_2], 66, .norm)), (4, ([.ints .u32 8 m4], 61, .norm))], 5⟩ => some (m0, m1, m3_0, m3_1, m3_2, m4)
  | _ => none
def f43.o0 (y : f43.Ty0) : VS := ⟨[(0, .int .u32 y.1)], [(0, ([.ints .u32 16 y.2.1], 85, .norm)), (1, ([.int .i64 y.2.2.1], 3, .norm)), (2, ([.ptr 3 1], 68, .norm)), (3, ([.ptr 4 0, .ints .u8 64 y.2.2.2.1, .int .i64 y.2.2.2.2.1, .int .u64 y.2.2.2.2.2.1], 66, .norm)), (4, ([.ints .u32 8 y.2.2.2.2.2.2], 61, .norm))], 5⟩
def f43.inR : VS → Option (f43.Ty0)
  | ⟨[(0, .int .u32 y)], [(0, ([.ints .u32 16 z0], 85, .norm)), (1, ([.int .i64 z1], 3, .norm)), (2, ([.ptr 3 1], 68, .norm)), (3, ([.ptr 4 0, .ints .u8 64 z3_0, .int .i64 z3_1, .int .u64 z3_2], 66, .norm)), (4, ([.ints .u32 8 z4], 61, .norm))], 5⟩ => some (y, z0, z1, z3_0, z3_1, z3_2, z4)
  | _ => none
noncomputable def f43.E (K : Nat) : Entry := genE 5 f43.inA (f43.F K) (dv1 f43.o0)
theorem f43.ok (K : Nat) : EntryOK Tryd.prog 43 (f43.E K) := gen_ok mix tys_ok (sp := tabSp [(44, (viewE [(0, .u8)] (f44.E K))), (40, (viewE [(1, .i64)] (f40.E K)))]) (tab_ok ((tab_cons (view_ok (f44.ok K)) (tab_cons (view_ok (f40.ok K)) tab_nil)))) Tryd.func43 (c := bodyOf Tryd.f43) (by kernel_rfl) (by kernel_rfl) (loops_none (lp := lpNone) (by kernel_rfl)) (av := f43.av) (bl := f43.bl) (inR := f43.inR) (out := f43.o0) (fuel := 400)
  (by intro s x h; unfold f43.inA at h; split at h <;> simp at h; subst h; rfl) (fun _ => Nat.le_of_ble_eq_true rfl)
  (by intro s y h; unfold f43.inR at h; split at h <;> simp at h <;> subst h <;> rfl) (fun _ _ _ => rfl) (fun _ => by kernel_rfl)
end Go.Proofs

namespace Go.Proofs
open Go.VM
abbrev f30.Ty0 := List Int × Int × List Int × Int × Int × List Int × List Int × List Int × List Int × List Int × Int
abbrev f30.Ty1 := List Int × Int × List Int × Int × Int × List Int × List Int × List Int
abbrev f30.Ty2 := List Int × Int × Int × List Int × List Int × List Int × List Int
abbrev f30.Ty3 := List Int × Int × Int × List Int × List Int × List Int
abbrev f30.Ty4 := List Int × List Int × Int × Int × List Int
noncomputable def f30.c : Code := bodyOf Tryd.f30
def f30.s0t (K : Nat) (rec : f30.Ty0 → Option (f30.Ty2)) (t16 : List Int) (t17 : Int) (b0_0 : List Int) (b0_1 : Int) (b0_2 : Int) (b1 : List Int) (b2 : List Int) (b3 : List Int) (b4 : List Int) (b5 : List Int) (b6 : Int) : Option (f30.Ty2) :=
  bif (decide (t17 < 64)) then
    bif decide (0 ≤ t17 ∧ t17 < 64) then
      (f40.F K ((List.getD b4 4 0), 3, 3, [6, 11, 25])).bind fun y7 =>
      (f43.F K (b5, b6, b0_0, b0_1, b0_2, b1)).bind fun y19 =>
      let v20 := IntKind.wrap .u32 ((IntKind.wrap .u32 ((IntKind.wrap .u32 ((IntKind.wrap .u32 ((List.getD b4 7 0) + y7.1)) + (bits .or .u32 (bits .and .u32 (List.getD b4 4 0) (List.getD b4 5 0)) (bits .and .u32 (bits .xor .u32 4294967295 (List.getD b4 4 0)) (List.getD b4 6 0))))) + (List.getD t16 (Int.toNat t17) 0))) + y19.1)
      (f40.F K ((List.getD b4 0 0), 3, 3, [2, 13, 22])).bind fun y22 =>
      let v33 := spl b4 1 7 (subI b4 0 7)
      rec (t16, (IntKind.wrap .i64 (t17 + 1)), y19.2.2.2.1, y19.2.2.2.2.1, y19.2.2.2.2.2.1, y19.2.2.2.2.2.2, b2, b3, (setD (setD v33 4 (IntKind.wrap .u32 ((List.getD v33 4 0) + v20))) 0 (IntKind.wrap .u32 (v20 + (IntKind.wrap .u32 (y22.1 + (bits .xor .u32 (bits .and .u32 (List.getD b4 0 0) (bits .xor .u32 (List.getD b4 1 0) (List.getD b4 2 0))) (bits .and .u32 (List.getD b4 1 0) (List.getD b4 2 0)))))))), y19.2.1, y19.2.2.1)
    else
      none
  else
    some (b0_0, b0_1, b0_2, b1, b2, b3, b4)
def f30.s0 (K : Nat) (rec : f30.Ty0 → Option (f30.Ty2)) (x : f30.Ty0) : Option (f30.Ty2) := f30.s0t K rec x.1 x.2.1 x.2.2.1 x.2.2.2.1 x.2.2.2.2.1 x.2.2.2.2.2.1 x.2.2.2.2.2.2.1 x.2.2.2.2.2.2.2.1 x.2.2.2.2.2.2.2.2.1 x.2.2.2.2.2.2.2.2.2.1 x.2.2.2.2.2.2.2.2.2.2
noncomputable def f30.s0.b : Code := (findLoop 0 f30.c).getD .skip
def f30.s0.h : Hint := { lv := [2, 4, 5, 6, 16, 17] }
def f30.s0.ho : Hint := { lv := [2, 4, 5] }
def f30.s0.shp (x : f30.Ty0) : VS := ⟨[(2, .ptr 2 0), (4, .ptr 3 0), (5, .ptr 4 0), (6, .fn 43 [.ptr 5 0, .ptr 6 0, .ptr 7 0]), (16, .agg [.ints .u32 64 x.1]), (17, .int .i64 x.2.1)], [(0, ([.ptr 1 0, .ints .u8 64 x.2.2.1, .int .i64 x.2.2.2.1, .int .u64 x.2.2.2.2.1], 66, .norm)), (1, ([.ints .u32 8 x.2.2.2.2.2.1], 61, .norm)), (2, ([.ints .u32 8 x.2.2.2.2.2.2.1], 61, .norm)), (3, ([.ints .u32 8 x.2.2.2.2.2.2.2.1], 61, .norm)), (4, ([.ints .u32 8 x.2.2.2.2.2.2.2.2.1], 61, .norm)), (5, ([.ints .u32 16 x.2.2.2.2.2.2.2.2.2.1], 85, .norm)), (6, ([.int .i64 x.2.2.2.2.2.2.2.2.2.2], 3, .norm)), (7, ([.ptr 0 1], 68, .norm))], 8⟩
def f30.s0.inX : VS → Option (f30.Ty0)
  | ⟨[(2, .ptr 2 0), (4, .ptr 3 0), (5, .ptr 4 0), (6, .fn 43 [.ptr 5 0, .ptr 6 0, .ptr 7 0]), (16, .agg [.ints .u32 64 t16]), (17, .int .i64 t17)], [(0, ([.ptr 1 0, .ints .u8 64 b0_0, .int .i64 b0_1, .int .u64 b0_2], 66, .norm)), (1, ([.ints .u32 8 b1], 61, .norm)), (2, ([.ints .u32 8 b2], 61, .norm)), (3, ([.ints .u32 8 b3], 61, .norm)), (4, ([.ints .u32 8 b4], 61, .norm)), (5, ([.ints .u32 16 b5], 85, .norm)), (6, ([.int .i64 b6], 3, .norm)), (7, ([.ptr 0 1], 68, .norm))], 8⟩ => some (t16, t17, b0_0, b0_1, b0_2, b1, b2, b3, b4, b5, b6)
  | _ => none
def f30.s0.o0 (y : f30.Ty2) : VS := ⟨[(2, .ptr 2 0), (4, .ptr 3 0), (5, .ptr 4 0)], [(0, ([.ptr 1 0, .ints .u8 64 y.1, .int .i64 y.2.1, .int .u64 y.2.2.1], 66, .norm)), (1, ([.ints .u32 8 y.2.2.2.1], 61, .norm)), (2, ([.ints .u32 8 y.2.2.2.2.1], 61, .norm)), (3, ([.ints .u32 8 y.2.2.2.2.2.1], 61, .norm)), (4, ([.ints .u32 8 y.2.2.2.2.2.2], 61, .norm))], 5⟩
def f30.s0.des : ∀ α : Type, (f30.Ty2) → (Ex → VS → Option α) → Option α := (des1 (.exit 0) f30.s0.o0)
def f30.s0.out : f30.Ty2 → Ex × VS := (fun y => (.exit 0, f30.s0.o0 y))
theorem f30.s0.desOK : ∀ α y (k : Ex → VS → Option α), f30.s0.des α y k = k (f30.s0.out y).1 (f30.s0.out y).2 := (fun _ _ _ => rfl)
def f30.s0.inY : Ex → VS → Option (f30.Ty2)
  | .exit 0, ⟨[(2, .ptr 2 0), (4, .ptr 3 0), (5, .ptr 4 0)], [(0, ([.ptr 1 0, .ints .u8 64 b0_0, .int .i64 b0_1, .int .u64 b0_2], 66, .norm)), (1, ([.ints .u32 8 b1], 61, .norm)), (2, ([.ints .u32 8 b2], 61, .norm)), (3, ([.ints .u32 8 b3], 61, .norm)), (4, ([.ints .u32 8 b4], 61, .norm))], 5⟩ => some (b0_0, b0_1, b0_2, b1, b2, b3, b4)
  | _, _ => none
def f30.s2t (_K : Nat) (rec : f30.Ty1 → Option (f30.Ty3)) (t77 : List Int) (t78 : Int) (b0_0 : List Int) (b0_1 : Int) (b0_2 : Int) (b1 : List Int) (b2 : List Int) (b3 : List Int) : Option (f30.Ty3) :=
  bif (decide (t78 < 8)) then
    bif decide (0 ≤ t78 ∧ t78 < 8) then
      bif decide (0 ≤ t78 ∧ t78 < 8) then
        bif decide (0 ≤ t78 ∧ t78 < 8) then
          rec (t77, (IntKind.wrap .i64 (t78 + 1)), b0_0, b0_1, b0_2, b1, b2, (setD b3 (Int.toNat t78) (IntKind.wrap .u32 ((List.getD b3 (Int.toNat t78) 0) + (List.getD t77 (Int.toNat t78) 0)))))
        else
          none
      else
        none
    else
      none
  else
    some (b0_0, b0_1, b0_2, b1, b2, b3)
def f30.s2 (K : Nat) (rec : f30.Ty1 → Option (f30.Ty3)) (x : f30.Ty1) : Option (f30.Ty3) := f30.s2t K rec x.1 x.2.1 x.2.2.1 x.2.2.2.1 x.2.2.2.2.1 x.2.2.2.2.2.1 x.2.2.2.2.2.2.1 x.2.2.2.2.2.2.2
noncomputable def f30.s2.b : Code := (findLoop 2 f30.c).getD .skip
def f30.s2.h : Hint := { lv := [4, 5, 77, 78] }
def f30.s2.ho : Hint := { lv := [4, 5] }
def f30.s2.shp (x : f30.Ty1) : VS := ⟨[(4, .ptr 2 0), (5, .ptr 3 0), (77, .agg [.ints .u32 8 x.1]), (78, .int .i64 x.2.1)], [(0, ([.ptr 1 0, .ints .u8 64 x.2.2.1, .int .i64 x.2.2.2.1, .int .u64 x.2.2.2.2.1], 66, .norm)), (1, ([.ints .u32 8 x.2.2.2.2.2.1], 61, .norm)), (2, ([.ints .u32 8 x.2.2.2.2.2.2.1], 61, .norm)), (3, ([.ints .u32 8 x.2.2.2.2.2.2.2], 61, .norm))], 4⟩
def f30.s2.inX : VS → Option (f30.Ty1)
  | ⟨[(4, .ptr 2 0), (5, .ptr 3 0), (77, .agg [.ints .u32 8 t77]), (78, .int .i64 t78)], [(0, ([.ptr 1 0, .ints .u8 64 b0_0, .int .i64 b0_1, .int .u64 b0_2], 66, .norm)), (1, ([.ints .u32 8 b1], 61, .norm)), (2, ([.ints .u32 8 b2], 61, .norm)), (3, ([.ints .u32 8 b3], 61, .norm))], 4⟩ => some (t77, t78, b0_0, b0_1, b0_2, b1, b2, b3)
  | _ => none
def f30.s2.o0 (y : f30.Ty3) : VS := ⟨[(4, .ptr 2 0), (5, .ptr 3 0)], [(0, ([.ptr 1 0, .ints .u8 64 y.1, .int .i64 y.2.1, .int .u64 y.2.2.1], 66, .norm)), (1, ([.ints .u32 8 y.2.2.2.1], 61, .norm)), (2, ([.ints .u32 8 y.2.2.2.2.1], 61, .norm)), (3, ([.ints .u32 8 y.2.2.2.2.2], 61, .norm))], 4⟩
def f30.s2.des : ∀ α : Type, (f30.Ty3) → (Ex → VS → Option α) → Option α := (des1 (.exit 2) f30.s2.o0)
def f30.s2.out : f30.Ty3 → Ex × VS := (fun y => (.exit 2, f30.s2.o0 y))
theorem f30.s2.desOK : ∀ α y (k : Ex → VS → Option α), f30.s2.des α y k = k (f30.s2.out y).1 (f30.s2.out y).2 := (fun _ _ _ => rfl)
def f30.s2.inY : Ex → VS → Option (f30.Ty3)
  | .exit 2, ⟨[(4, .ptr 2 0), (5, .ptr 3 0)], [(0, ([.ptr 1 0, .ints .u8 64 b0_0, .int .i64 b0_1, .int .u64 b0_2], 66, .norm)), (1, ([.ints .u32 8 b1], 61, .norm)), (2, ([.ints .u32 8 b2], 61, .norm)), (3, ([.ints .u32 8 b3], 61, .norm))], 4⟩ => some (b0_0, b0_1, b0_2, b1, b2, b3)
  | _, _ => none
def f30.lp (K : Nat) : Nat → Option (Hint × Summ) := tabLp [(0, f30.s0.h, summOf (iter (f30.s0 K) K) f30.s0.inX f30.s0.des), (2, f30.s2.h, summOf (iter (f30.s2 K) K) f30.s2.inX f30.s2.des)]
noncomputable def f30.tab (K : Nat) : List (Nat × Entry) := [(38, (f38.E K)), (39, (f39.E K)), (40, (viewE [(1, .i64)] (f40.E K))), (43, (f43.E K))]
theorem f30.tabOK (K : Nat) : SpecOK Tryd.prog (tabSp (f30.tab K)) := tab_ok ((tab_cons (f38.ok K) (tab_cons (f39.ok K) (tab_cons (view_ok (f40.ok K)) (tab_cons (f43.ok K) tab_nil)))))
theorem f30.s0.eq (K : Nat) (rec : f30.Ty0 → Option (f30.Ty2)) (x : f30.Ty0) : f30.s0 K rec x = roundL (getA tys) (tabSp (f30.tab K)) 90 2 (f30.lp K) 400 f30.s0.b f30.s0.h f30.s0.ho f30.s0.shp f30.s0.inX f30.s0.inY rec x := by kernel_rfl
theorem f30.s0.lok (K : Nat) : LoopsOK Tryd.prog 90 2 (f30.lp K) f30.s0.b := loops_ok (by
  have h : loopsIn (f30.lp K) f30.s0.b = [] := by kernel_rfl
  rw [h]; simp)
theorem f30.s0.ok (K : Nat) : SummOK Tryd.prog 90 2 (summOf (iter (f30.s0 K) K) f30.s0.inX f30.s0.des) f30.s0.b :=
  loop_ok mix tys_ok (f30.tabOK K) (h := f30.s0.h) (ho := f30.s0.ho) (shp := f30.s0.shp) (inX := f30.s0.inX) (des := f30.s0.des) (out := f30.s0.out) (inY := f30.s0.inY) (fuel := 400)
    (by intro st x h; unfold f30.s0.inX at h; split at h <;> simp at h; subst h; rfl)
    (by intro e st y h; unfold f30.s0.inY at h; split at h <;> simp at h <;> subst h <;> rfl)
    f30.s0.desOK (f30.s0.lok K) (f30.s0 K) (f30.s0.eq K) K
theorem f30.s2.eq (K : Nat) (rec : f30.Ty1 → Option (f30.Ty3)) (x : f30.Ty1) : f30.s2 K rec x = roundL (getA tys) (tabSp (f30.tab K)) 90 2 (f30.lp K) 400 f30.s2.b f30.s2.h f30.s2.ho f30.s2.shp f30.s2.inX f30.s2.inY rec x := by kernel_rfl
theorem f30.s2.lok (K : Nat) : LoopsOK Tryd.prog 90 2 (f30.lp K) f30.s2.b := loops_ok (by
  have h : loopsIn (f30.lp K) f30.s2.b = [] := by kernel_rfl
  rw [h]; simp)
theorem f30.s2.ok (K : Nat) : SummOK Tryd.prog 90 2 (summOf (iter (f30.s2 K) K) f30.s2.inX f30.s2.des) f30.s2.b :=
  loop_ok mix tys_ok (f30.tabOK K) (h := f30.s2.h) (ho := f30.s2.ho) (shp := f30.s2.shp) (inX := f30.s2.inX) (des := f30.s2.des) (out := f30.s2.out) (inY := f30.s2.inY) (fuel := 400)
    (by intro st x h; unfold f30.s2.inX at h; split at h <;> simp at h; subst h; rfl)
    (by intro e st y h; unfold f30.s2.inY at h; split at h <;> simp at h <;> subst h <;> rfl)
    f30.s2.desOK (f30.s2.lok K) (f30.s2 K) (f30.s2.eq K) K
theorem f30.loops (K : Nat) : LoopsOK Tryd.prog 90 2 (f30.lp K) f30.c := loops_ok (by
  have h : loopsIn (f30.lp K) f30.c = [(0, f30.s0.b), (2, f30.s2.b)] := by kernel_rfl
  rw [h]
  intro p hp
  simp only [List.mem_cons, List.not_mem_nil, or_false] at hp
  rcases hp with rfl | rfl
  · exact ⟨_, rfl, (f30.s0.ok K)⟩
  · exact ⟨_, rfl, (f30.s2.ok K)⟩)
def f30.T (K : Nat) (a0 : List Int) (m0_0 : List Int) (m0_1 : Int) (m0_2 : Int) (m1 : List Int) : Option (f30.Ty4) :=
  (f38.F K (m0_0, m0_1, m0_2, m1)).bind fun y1 =>
  (f39.F K ()).bind fun y2 =>
  (iter (f30.s0 K) K (y2, 0, y1.1, y1.2.1, y1.2.2.1, y1.2.2.2.1, a0, [0, 0, 0, 0, 0, 0, 0, 0], a0, y1.2.2.2.2.1, y1.2.2.2.2.2)).bind fun y40 =>
  (iter (f30.s2 K) K (y40.2.2.2.2.1, 0, y40.1, y40.2.1, y40.2.2.1, y40.2.2.2.1, y40.2.2.2.2.2.1, y40.2.2.2.2.2.2)).bind fun y50 =>
  some (y50.2.2.2.2.2, y50.1, y50.2.1, y50.2.2.1, y50.2.2.2.1)
def f30.F (K : Nat) (x : f30.Ty4) : Option (f30.Ty4) := f30.T K x.1 x.2.1 x.2.2.1 x.2.2.2.1 x.2.2.2.2
def f30.av (x : f30.Ty4) : List VV := [.agg [.ints .u32 8 x.1], .ptr 0 1]
def f30.bl (x : f30.Ty4) : List (Nat × Blk) := [(0, ([.ptr 1 0, .ints .u8 64 x.2.1, .int .i64 x.2.2.1, .int .u64 x.2.2.2.1], 66, .norm)), (1, ([.ints .u32 8 x.2.2.2.2], 61, .norm))]
def f30.inA : VS → Option (f30.Ty4)
  | ⟨[(0, .agg [.ints .u32 8 a0]), (1, .ptr 0 1)], [(0, ([.ptr 1 0, .ints .u8 64 m0_0, .int .i64 m0_1, .int .u64 m0_2], 66, .norm)), (1, ([.ints .u32 8 m1], 61, .norm))], 2⟩ => some (a0, m0_0, m0_1, m0_2, m1)
  | _ => none
def f30.o0 (y : f30.Ty4) : VS := ⟨[(0, .agg [.ints .u32 8 y.1])], [(0, ([.ptr 1 0, .ints .u8 64 y.2.1, .int .i64 y.2.2.1, .int .u64 y.2.2.2.1], 66, .norm)), (1, ([.ints .u32 8 y.2.2.2.2], 61, .norm))], 2⟩
def f30.des : ∀ α : Type, (f30.Ty4) → (VS → Option α) → Option α := (dv1 f30.o0)
def f30.out : f30.Ty4 → VS := f30.o0
def f30.inR : VS → Option (f30.Ty4)
  | ⟨[(0, .agg [.ints .u32 8 y])], [(0, ([.ptr 1 0, .ints .u8 64 z0_0, .int .i64 z0_1, .int .u64 z0_2], 66, .norm)), (1, ([.ints .u32 8 z1], 61, .norm))], 2⟩ => some (y, z0_0, z0_1, z0_2, z1)
  | _ => none
noncomputable def f30.E (K : Nat) : Entry := genE 2 f30.inA (f30.F K) f30.des
theorem f30.eq (K : Nat) (x : f30.Ty4) : f30.F K x = xrun (getA tys) (tabSp (f30.tab K)) Tryd.f30.ntmps 2 (f30.lp K) 400 f30.c ⟨initL 0 (f30.av x), f30.bl x, 2⟩ (contF (getA tys) 2 Tryd.f30.results.toList f30.inR) := by kernel_rfl
theorem f30.ok (K : Nat) : EntryOK Tryd.prog 30 (f30.E K) :=
  gen_ok mix tys_ok (f30.tabOK K) Tryd.func30 (by kernel_rfl : Tryd.f30.body = some f30.c) (by kernel_rfl) (f30.loops K) (av := f30.av) (bl := f30.bl) (out := f30.out) (fuel := 400)
    (by intro s x h; unfold f30.inA at h; split at h <;> simp at h; subst h; rfl) (fun _ => Nat.le_of_ble_eq_true rfl)
    (by intro s y h; unfold f30.inR at h; split at h <;> simp at h <;> subst h <;> rfl) (fun _ _ _ => rfl) (f30.eq K)
end Go.Proofs

namespace Go.Proofs
open Go.VM
def Sh.rot (x u v : Int) : Int := bits .or .u32 (shiftI .shl .u32 x u) (shiftI .shr .u32 x v)
def Sh.downs (x : Int) (L : List Nat) : Int := L.foldl (fun a k => bits .xor .u32 a (Sh.rot x ((32 - k : Nat) : Int) (k : Int))) 0
theorem Sh.turn : ∀ k : Fin 32, 1 ≤ k.val → bits .and .u64 (IntKind.wrap .u64 (IntKind.wrap .i64 (0 - (k.val : Int)))) 31 = ((32 - k.val : Nat) : Int) ∧ IntKind.wrap .u64 (32 - ((32 - k.val : Nat) : Int)) = (k.val : Int) := by decide +kernel
theorem f45.spec (K : Nat) (x : Int) (k : Nat) (h1 : 1 ≤ k) (h2 : k ≤ 31) : f45.F K (x, IntKind.wrap .i64 (0 - (k : Int))) = some (Sh.rot x ((32 - k : Nat) : Int) (k : Int)) := by
  obtain ⟨e1, e2⟩ := Sh.turn ⟨k, by omega⟩ h1
  simp only [f45.F, f45.T]
  simp only [] at e1 e2
  rw [e1, e2, decide_eq_true (show (0 : Int) ≤ ((32 - k : Nat) : Int) by omega), cond_t, decide_eq_true (show (0 : Int) ≤ (k : Int) by omega), cond_t, Sh.rot]
theorem f40.spec (K : Nat) (x : Int) (L : List Nat) (n : Nat) (hn : L.length = n) (h : ∀ k ∈ L, 1 ≤ k ∧ k ≤ 31) (hK : n < K) (hs : n < 1000000) :
    f40.F K (x, n, n, L.map fun k : Nat => (k : Int)) = some (Sh.downs x L, n, L.map fun k : Nat => (k : Int)) := by
  have := iter_for (stp := f40.s0 K) (N := n) (fun i => (x, Sh.downs x (L.take i), n, ((n : Nat) : Int), (i : Int), n, L.map fun k : Nat => (k : Int))) (y := some (Sh.downs x L, n, L.map fun k : Nat => (k : Int))) ?_ ?_ hK
  · simp only [f40.F, f40.T]
    rw [show iter (f40.s0 K) K (x, 0, n, ((n : Nat) : Int), 0, n, L.map fun k : Nat => (k : Int)) = _ from this, bind_s]
  · intro i hi rec
    simp only [f40.s0, f40.s0t]
    have hm : i < L.length := by omega
    have hg : List.getD (L.map fun k : Nat => (k : Int)) i 0 = ((L[i] : Nat) : Int) := by simp [List.getD_eq_getElem?_getD, hm]
    obtain ⟨h1, h2⟩ := h L[i] (List.getElem_mem hm)
    rw [decide_eq_true (show (i : Int) < ((n : Nat) : Int) by omega), cond_t, decide_eq_true (show (0 : Int) ≤ (i : Int) ∧ (i : Int) < ((n : Nat) : Int) by omega), cond_t, Int.toNat_natCast, Nat.zero_add, show Nat.blt i n = true from by simp [Nat.blt_eq]; omega, cond_t, hg, f45.spec K x _ h1 h2, bind_s, wrap_i _ (by omega) (by omega)]
    have e : L.take (i + 1) = L.take i ++ [L[i]] := by rw [List.take_add_one, List.getElem?_eq_getElem hm]; rfl
    rw [e, Sh.downs, Sh.downs, List.foldl_append]
    rfl
  · intro rec
    simp only [f40.s0, f40.s0t]
    rw [decide_eq_false (show ¬ ((n : Nat) : Int) < ((n : Nat) : Int) by omega), cond_f, List.take_of_length_le (by omega)]
def Sh.sched (w b : List Int) (t : Nat) : List Int :=
  if t < 16 then setD w (t % 16) (IntKind.wrap .u32 ((tv (subI b (4 * t) 4) : Nat) : Int))
  else
    let x := List.getD w ((t + 1) % 16) 0
    let y := List.getD w ((t + 14) % 16) 0
    let w1 := setD w (t % 16) (IntKind.wrap .u32 ((List.getD w (t % 16) 0) + (bits .xor .u32 (Sh.downs x [7, 18]) (Int.fdiv x (2 ^ 3)))))
    let w2 := setD w1 (t % 16) (IntKind.wrap .u32 ((List.getD w1 (t % 16) 0) + (bits .xor .u32 (Sh.downs y [17, 19]) (Int.fdiv y (2 ^ 10)))))
    setD w2 (t % 16) (IntKind.wrap .u32 ((List.getD w2 (t % 16) 0) + (List.getD w2 ((t + 9) % 16) 0)))
theorem f43.spec (K t : Nat) (w b s : List Int) (hd mn : Int) (ht : t < 64) (ho : octets b) (hK : 8 < K) :
    f43.F K (w, (t : Int), b, hd, mn, s) = some (List.getD (Sh.sched w b t) (t % 16) 0, Sh.sched w b t, ((t + 1 : Nat) : Int), b, hd, mn, s) := by
  simp only [f43.F, f43.T]
  have m0 : Int.tmod (t : Int) 16 = ((t % 16 : Nat) : Int) := tmod_nat t 16
  have m1 : ∀ k : Nat, k < 100 → Int.tmod (IntKind.wrap .i64 ((t : Int) + (k : Int))) 16 = (((t + k) % 16 : Nat) : Int) := fun k hk => by
    rw [wrap_i _ (by omega) (by omega), show ((t : Int) + (k : Int)) = ((t + k : Nat) : Int) by omega]; exact tmod_nat (t + k) 16
  have m2 : ∀ k : Nat, decide ((0 : Int) ≤ ((k % 16 : Nat) : Int) ∧ ((k % 16 : Nat) : Int) < 16) = true := fun k => decide_eq_true (by omega)
  have e1 : Int.tmod (IntKind.wrap .i64 ((t : Int) + 1)) 16 = (((t + 1) % 16 : Nat) : Int) := m1 1 (by omega)
  have e14 : Int.tmod (IntKind.wrap .i64 ((t : Int) + 14)) 16 = (((t + 14) % 16 : Nat) : Int) := m1 14 (by omega)
  have e9 : Int.tmod (IntKind.wrap .i64 ((t : Int) + 9)) 16 = (((t + 9) % 16 : Nat) : Int) := m1 9 (by omega)
  have et : IntKind.wrap .i64 ((t : Int) + 1) = ((t + 1 : Nat) : Int) := by rw [wrap_i _ (by omega) (by omega)]; omega
  rw [m0, m2, cond_t]
  rcases Nat.lt_or_ge t 16 with h | h
  · rw [decide_eq_true (show (t : Int) < 16 by omega), cond_t]
    have e4 : IntKind.wrap .i64 (4 * (t : Int)) = ((4 * t : Nat) : Int) := by rw [wrap_i _ (by omega) (by omega)]; omega
    have e6 : (bif Nat.beq 64 (4 * t) then 0 else 4 * t) = 4 * t := by
      rw [show Nat.beq 64 (4 * t) = false from (by rw [← Bool.not_eq_true, Nat.beq_eq]; omega), cond_f]
    have es := f44.spec K (64 - 4 * t) 4 (subI b (4 * t) (64 - 4 * t)) (subI_length _ _ _) (octets_sub ho _ _) (by omega) (by omega) (by omega) hK
    have ek : (subI b (4 * t) (64 - 4 * t)).take 4 = subI b (4 * t) 4 := by
      rw [subI, subI, ← List.map_take, List.take_range, Nat.min_eq_left (by omega)]
    rw [ek] at es
    rw [e4, decide_eq_true (show (0 : Int) ≤ ((4 * t : Nat) : Int) ∧ ((4 * t : Nat) : Int) ≤ 64 by omega), cond_t]
    simp only [Int.toNat_natCast]
    rw [e6, ble_true (show 4 * t + (64 - 4 * t) ≤ 64 by omega), ble_true (Nat.le_refl (64 - 4 * t)), Bool.and_self, Bool.and_self, cond_t, show ((4 : Int)) = ((4 : Nat) : Int) from rfl, es, bind_s, et]
    simp only [Sh.sched, if_pos h]
  · rw [decide_eq_false (show ¬ (t : Int) < 16 by omega), cond_f, e1, m2, cond_t, e14, m2, cond_t]
    simp only [Int.toNat_natCast]
    have d1 := f40.spec K (List.getD w ((t + 1) % 16) 0) [7, 18] 2 rfl (by decide) (by omega) (by omega)
    have d2 := f40.spec K (List.getD w ((t + 14) % 16) 0) [17, 19] 2 rfl (by decide) (by omega) (by omega)
    simp only [List.map_cons, List.map_nil] at d1 d2
    rw [show ((7 : Int)) = ((7 : Nat) : Int) from rfl, show ((18 : Int)) = ((18 : Nat) : Int) from rfl, d1, bind_s, show ((17 : Int)) = ((17 : Nat) : Int) from rfl, show ((19 : Int)) = ((19 : Nat) : Int) from rfl, d2, bind_s, e9, m2, cond_t, et]
    simp only [Sh.sched, if_neg (show ¬ t < 16 by omega), Int.toNat_natCast]
def Sh.consts : List Int := [1116352408, 1899447441, 3049323471, 3921009573, 961987163, 1508970993, 2453635748, 2870763221, 3624381080, 310598401, 607225278, 1426881987, 1925078388, 2162078206, 2614888103, 3248222580, 3835390401, 4022224774, 264347078, 604807628, 770255983, 1249150122, 1555081692, 1996064986, 2554220882, 2821834349, 2952996808, 3210313671, 3336571891, 3584528711, 113926993, 338241895, 666307205, 773529912, 1294757372, 1396182291, 1695183700, 1986661051, 2177026350, 2456956037, 2730485921, 2820302411, 3259730800, 3345764771, 3516065817, 3600352804, 4094571909, 275423344, 430227734, 506948616, 659060556, 883997877, 958139571, 1322822218, 1537002063, 1747873779, 1955562222, 2024104815, 2227730452, 2361852424, 2428436474, 2756734187, 3204031479, 3329325298]
def Sh.step (b : List Int) (t : Nat) (vw : List Int × List Int) : List Int × List Int :=
  let v := vw.1
  let w := Sh.sched vw.2 b t
  let t1 := IntKind.wrap .u32 ((IntKind.wrap .u32 ((IntKind.wrap .u32 ((IntKind.wrap .u32 ((List.getD v 7 0) + Sh.downs (List.getD v 4 0) [6, 11, 25])) + (bits .or .u32 (bits .and .u32 (List.getD v 4 0) (List.getD v 5 0)) (bits .and .u32 (bits .xor .u32 4294967295 (List.getD v 4 0)) (List.getD v 6 0))))) + (List.getD Sh.consts t 0))) + List.getD w (t % 16) 0)
  let v33 := spl v 1 7 (subI v 0 7)
  (setD (setD v33 4 (IntKind.wrap .u32 ((List.getD v33 4 0) + t1))) 0 (IntKind.wrap .u32 (t1 + (IntKind.wrap .u32 (Sh.downs (List.getD v 0 0) [2, 13, 22] + (bits .xor .u32 (bits .and .u32 (List.getD v 0 0) (bits .xor .u32 (List.getD v 1 0) (List.getD v 2 0))) (bits .and .u32 (List.getD v 1 0) (List.getD v 2 0))))))), w)
def Sh.rounds (s b : List Int) : Nat → List Int × List Int
  | 0 => (s, [0, 0, 0, 0, 0, 0, 0, 0, 0, 0, 0, 0, 0, 0, 0, 0])
  | t + 1 => Sh.step b t (Sh.rounds s b t)
def Sh.added (v s : List Int) : Nat → List Int
  | 0 => s
  | i + 1 => setD (Sh.added v s i) i (IntKind.wrap .u32 (List.getD (Sh.added v s i) i 0 + List.getD v i 0))
def Sh.comp (s b : List Int) : List Int := Sh.added s (Sh.rounds s b 64).1 8
theorem f30.rounds (K : Nat) (s b : List Int) (hd mn : Int) (ho : octets b) (hK : 64 < K) (z : List Int) :
    iter (f30.s0 K) K (Sh.consts, 0, b, hd, mn, s, s, z, s, [0, 0, 0, 0, 0, 0, 0, 0, 0, 0, 0, 0, 0, 0, 0, 0], 0) = some (b, hd, mn, s, s, z, (Sh.rounds s b 64).1) := by
  have := iter_for (stp := f30.s0 K) (N := 64) (fun i => (Sh.consts, (i : Int), b, hd, mn, s, s, z, (Sh.rounds s b i).1, (Sh.rounds s b i).2, (i : Int))) (y := some (b, hd, mn, s, s, z, (Sh.rounds s b 64).1)) ?_ ?_ hK
  · exact this
  · intro i hi rec
    simp only [f30.s0, f30.s0t]
    have d1 := f40.spec K (List.getD (Sh.rounds s b i).1 4 0) [6, 11, 25] 3 rfl (by decide) (by omega) (by omega)
    have d2 := f40.spec K (List.getD (Sh.rounds s b i).1 0 0) [2, 13, 22] 3 rfl (by decide) (by omega) (by omega)
    simp only [List.map_cons, List.map_nil] at d1 d2
    rw [decide_eq_true (show (i : Int) < 64 by omega), cond_t, decide_eq_true (show (0 : Int) ≤ (i : Int) ∧ (i : Int) < 64 by omega), cond_t]
    rw [show ((6 : Int)) = ((6 : Nat) : Int) from rfl, show ((11 : Int)) = ((11 : Nat) : Int) from rfl, show ((25 : Int)) = ((25 : Nat) : Int) from rfl, d1, bind_s, f43.spec K i _ b s hd mn hi ho (by omega), bind_s]
    rw [show ((2 : Int)) = ((2 : Nat) : Int) from rfl, show ((13 : Int)) = ((13 : Nat) : Int) from rfl, show ((22 : Int)) = ((22 : Nat) : Int) from rfl, d2, bind_s, wrap_i _ (by omega) (by omega)]
    rfl
  · intro rec
    simp only [f30.s0, f30.s0t]
    rfl
theorem f30.sums (K : Nat) (s v b : List Int) (hd mn : Int) (a1 a2 : List Int) (hK : 8 < K) :
    iter (f30.s2 K) K (v, 0, b, hd, mn, a1, a2, s) = some (b, hd, mn, a1, a2, Sh.added v s 8) := by
  have := iter_for (stp := f30.s2 K) (N := 8) (fun i => (v, (i : Int), b, hd, mn, a1, a2, Sh.added v s i)) (y := some (b, hd, mn, a1, a2, Sh.added v s 8)) ?_ ?_ hK
  · exact this
  · intro i hi rec
    simp only [f30.s2, f30.s2t]
    rw [decide_eq_true (show (i : Int) < 8 by omega), cond_t, decide_eq_true (show (0 : Int) ≤ (i : Int) ∧ (i : Int) < 8 by omega), cond_t, cond_t, cond_t, Int.toNat_natCast, wrap_i _ (by omega) (by omega)]
    rfl
  · intro rec
    simp only [f30.s2, f30.s2t]
    rfl
theorem f30.spec (K : Nat) (s b : List Int) (hd mn : Int) (ho : octets b) (hK : 64 < K) : f30.F K (s, b, hd, mn, s) = some (Sh.comp s b, b, hd, mn, s) := by
  simp only [f30.F, f30.T]
  rw [show f38.F K (b, hd, mn, s) = some (b, hd, mn, s, [0, 0, 0, 0, 0, 0, 0, 0, 0, 0, 0, 0, 0, 0, 0, 0], 0) from rfl, bind_s, show f39.F K () = some Sh.consts from rfl, bind_s]
  simp only []
  rw [f30.rounds K s b hd mn ho hK, bind_s]
  simp only []
  rw [f30.sums K _ s b hd mn s [0, 0, 0, 0, 0, 0, 0, 0] (by omega), bind_s]
  rfl
end Go.Proofs

namespace Go.Proofs
open Go.VM
abbrev f21.Ty0 := Nat × Nat × List Int × Int × Int × Nat × Nat × Nat × List Int × Nat × List Int × List Int
abbrev f21.Ty1 := List Int × Int × Int × Nat × Nat × Nat × List Int × Nat × List Int × List Int
abbrev f21.Ty2 := List Int × Int × Int × Nat × Nat × List Int × Nat × List Int × Nat × List Int
noncomputable def f21.c : Code := bodyOf Tryd.f21
def f21.s2t (K : Nat) (rec : f21.Ty0 → Option (f21.Ty1)) (t5_0 : Nat) (t5_1 : Nat) (b0_0 : List Int) (b0_1 : Int) (b0_2 : Int) (b1_0 : Nat) (b1_1 : Nat) (b4_0 : Nat) (b4_1 : List Int) (b6_0 : Nat) (b6_1 : List Int) (b9 : List Int) : Option (f21.Ty1) :=
  bif (decide (((t5_1 : Nat) : Int) > 0)) then
    bif decide (0 ≤ b0_1 ∧ b0_1 ≤ 64) then
      let v6 := bif Nat.beq 64 (Int.toNat b0_1) then 0 else (Int.toNat b0_1)
      let v7 := 64 - (Int.toNat b0_1)
      bif (((Nat.ble (t5_0 + t5_1) b4_0 && true) && (Nat.ble (v6 + v7) 64)) && (Nat.beq t5_1 t5_1)) then
        let v9 := ((Nat.min t5_1 v7 : Nat) : Int)
        let v10 := spl b0_0 v6 (Nat.min t5_1 v7) (subI b4_1 t5_0 t5_1)
        bif decide (0 ≤ v9 ∧ v9 ≤ ((t5_1 : Nat) : Int)) then
          let v11 := t5_0 + (Int.toNat v9)
          let v12 := t5_1 - (Int.toNat v9)
          let v13 := IntKind.wrap .i64 (b0_1 + v9)
          bif (v13 == 64) then
            (f30.F K (b9, v10, v13, b0_2, b9)).bind fun y14 =>
            rec (v11, v12, y14.2.1, 0, y14.2.2.2.1, b1_0, b1_1, b4_0, b4_1, b6_0, b6_1, y14.1)
          else
            rec (v11, v12, v10, v13, b0_2, b1_0, b1_1, b4_0, b4_1, b6_0, b6_1, b9)
        else
          none
      else
        none
    else
      none
  else
    some (b0_0, b0_1, b0_2, b1_0, b1_1, b4_0, b4_1, b6_0, b6_1, b9)
def f21.s2 (K : Nat) (rec : f21.Ty0 → Option (f21.Ty1)) (x : f21.Ty0) : Option (f21.Ty1) := f21.s2t K rec x.1 x.2.1 x.2.2.1 x.2.2.2.1 x.2.2.2.2.1 x.2.2.2.2.2.1 x.2.2.2.2.2.2.1 x.2.2.2.2.2.2.2.1 x.2.2.2.2.2.2.2.2.1 x.2.2.2.2.2.2.2.2.2.1 x.2.2.2.2.2.2.2.2.2.2.1 x.2.2.2.2.2.2.2.2.2.2.2
noncomputable def f21.s2.b : Code := (findLoop 2 f21.c).getD .skip
def f21.s2.h : Hint := { lv := [0, 5, 8, 9, 10], co := [(5, 0, [])], mv := [3] }
def f21.s2.ho : Hint := { lv := [0, 8, 9, 10] }
def f21.s2.shp (x : f21.Ty0) : VS := ⟨[(0, .ptr 0 0), (5, .vw true 4 x.1 x.2.1 8), (8, .vw true 1 0 2 2), (9, .int .i64 2), (10, .int .i64 0)], [(0, ([.ptr 9 0, .ints .u8 64 x.2.2.1, .int .i64 x.2.2.2.1, .int .u64 x.2.2.2.2.1], 66, .norm)), (1, ([.vw true 4 0 x.2.2.2.2.2.1 5, .vw true 6 0 x.2.2.2.2.2.2.1 7], 0, .ro)), (3, ([], 61, .dead)), (4, ([.ints .u8 x.2.2.2.2.2.2.2.1 x.2.2.2.2.2.2.2.2.1], 0, .ro)), (6, ([.ints .u8 x.2.2.2.2.2.2.2.2.2.1 x.2.2.2.2.2.2.2.2.2.2.1], 0, .ro)), (9, ([.ints .u32 8 x.2.2.2.2.2.2.2.2.2.2.2], 61, .norm))], 10⟩
def f21.s2.inX : VS → Option (f21.Ty0)
  | ⟨[(0, .ptr 0 0), (5, .vw true 4 t5_0 t5_1 8), (8, .vw true 1 0 2 2), (9, .int .i64 2), (10, .int .i64 0)], [(0, ([.ptr 9 0, .ints .u8 64 b0_0, .int .i64 b0_1, .int .u64 b0_2], 66, .norm)), (1, ([.vw true 4 0 b1_0 5, .vw true 6 0 b1_1 7], 0, .ro)), (3, ([], 61, .dead)), (4, ([.ints .u8 b4_0 b4_1], 0, .ro)), (6, ([.ints .u8 b6_0 b6_1], 0, .ro)), (9, ([.ints .u32 8 b9], 61, .norm))], 10⟩ => some (t5_0, t5_1, b0_0, b0_1, b0_2, b1_0, b1_1, b4_0, b4_1, b6_0, b6_1, b9)
  | _ => none
def f21.s2.o0 (y : f21.Ty1) : VS := ⟨[(0, .ptr 0 0), (8, .vw true 1 0 2 2), (9, .int .i64 2), (10, .int .i64 0)], [(0, ([.ptr 8 0, .ints .u8 64 y.1, .int .i64 y.2.1, .int .u64 y.2.2.1], 66, .norm)), (1, ([.vw true 4 0 y.2.2.2.1 5, .vw true 6 0 y.2.2.2.2.1 7], 0, .ro)), (3, ([], 61, .dead)), (4, ([.ints .u8 y.2.2.2.2.2.1 y.2.2.2.2.2.2.1], 0, .ro)), (6, ([.ints .u8 y.2.2.2.2.2.2.2.1 y.2.2.2.2.2.2.2.2.1], 0, .ro)), (8, ([.ints .u32 8 y.2.2.2.2.2.2.2.2.2], 61, .norm))], 9⟩
def f21.s2.des : ∀ α : Type, (f21.Ty1) → (Ex → VS → Option α) → Option α := (des1 (.exit 2) f21.s2.o0)
def f21.s2.out : f21.Ty1 → Ex × VS := (fun y => (.exit 2, f21.s2.o0 y))
theorem f21.s2.desOK : ∀ α y (k : Ex → VS → Option α), f21.s2.des α y k = k (f21.s2.out y).1 (f21.s2.out y).2 := (fun _ _ _ => rfl)
def f21.s2.inY : Ex → VS → Option (f21.Ty1)
  | .exit 2, ⟨[(0, .ptr 0 0), (8, .vw true 1 0 2 2), (9, .int .i64 2), (10, .int .i64 0)], [(0, ([.ptr 8 0, .ints .u8 64 b0_0, .int .i64 b0_1, .int .u64 b0_2], 66, .norm)), (1, ([.vw true 4 0 b1_0 5, .vw true 6 0 b1_1 7], 0, .ro)), (3, ([], 61, .dead)), (4, ([.ints .u8 b4_0 b4_1], 0, .ro)), (6, ([.ints .u8 b6_0 b6_1], 0, .ro)), (8, ([.ints .u32 8 b8], 61, .norm))], 9⟩ => some (b0_0, b0_1, b0_2, b1_0, b1_1, b4_0, b4_1, b6_0, b6_1, b8)
  | _, _ => none
def f21.s2bt (K : Nat) (rec : f21.Ty0 → Option (f21.Ty1)) (t5_0 : Nat) (t5_1 : Nat) (b0_0 : List Int) (b0_1 : Int) (b0_2 : Int) (b1_0 : Nat) (b1_1 : Nat) (b4_0 : Nat) (b4_1 : List Int) (b6_0 : Nat) (b6_1 : List Int) (b9 : List Int) : Option (f21.Ty1) :=
  bif (decide (((t5_1 : Nat) : Int) > 0)) then
    bif decide (0 ≤ b0_1 ∧ b0_1 ≤ 64) then
      let v22 := bif Nat.beq 64 (Int.toNat b0_1) then 0 else (Int.toNat b0_1)
      let v23 := 64 - (Int.toNat b0_1)
      bif (((Nat.ble (t5_0 + t5_1) b6_0 && true) && (Nat.ble (v22 + v23) 64)) && (Nat.beq t5_1 t5_1)) then
        let v25 := ((Nat.min t5_1 v23 : Nat) : Int)
        let v26 := spl b0_0 v22 (Nat.min t5_1 v23) (subI b6_1 t5_0 t5_1)
        bif decide (0 ≤ v25 ∧ v25 ≤ ((t5_1 : Nat) : Int)) then
          let v27 := t5_0 + (Int.toNat v25)
          let v28 := t5_1 - (Int.toNat v25)
          let v29 := IntKind.wrap .i64 (b0_1 + v25)
          bif (v29 == 64) then
            (f30.F K (b9, v26, v29, b0_2, b9)).bind fun y30 =>
            rec (v27, v28, y30.2.1, 0, y30.2.2.2.1, b1_0, b1_1, b4_0, b4_1, b6_0, b6_1, y30.1)
          else
            rec (v27, v28, v26, v29, b0_2, b1_0, b1_1, b4_0, b4_1, b6_0, b6_1, b9)
        else
          none
      else
        none
    else
      none
  else
    some (b0_0, b0_1, b0_2, b1_0, b1_1, b4_0, b4_1, b6_0, b6_1, b9)
def f21.s2b (K : Nat) (rec : f21.Ty0 → Option (f21.Ty1)) (x : f21.Ty0) : Option (f21.Ty1) := f21.s2bt K rec x.1 x.2.1 x.2.2.1 x.2.2.2.1 x.2.2.2.2.1 x.2.2.2.2.2.1 x.2.2.2.2.2.2.1 x.2.2.2.2.2.2.2.1 x.2.2.2.2.2.2.2.2.1 x.2.2.2.2.2.2.2.2.2.1 x.2.2.2.2.2.2.2.2.2.2.1 x.2.2.2.2.2.2.2.2.2.2.2
noncomputable def f21.s2b.b : Code := (findLoop 2 f21.c).getD .skip
def f21.s2b.h : Hint := { lv := [0, 5, 8, 9, 10], co := [(5, 0, [])], mv := [3] }
def f21.s2b.ho : Hint := { lv := [0, 8, 9, 10] }
def f21.s2b.shp (x : f21.Ty0) : VS := ⟨[(0, .ptr 0 0), (5, .vw true 6 x.1 x.2.1 8), (8, .vw true 1 0 2 2), (9, .int .i64 2), (10, .int .i64 1)], [(0, ([.ptr 9 0, .ints .u8 64 x.2.2.1, .int .i64 x.2.2.2.1, .int .u64 x.2.2.2.2.1], 66, .norm)), (1, ([.vw true 4 0 x.2.2.2.2.2.1 5, .vw true 6 0 x.2.2.2.2.2.2.1 7], 0, .ro)), (3, ([], 61, .dead)), (4, ([.ints .u8 x.2.2.2.2.2.2.2.1 x.2.2.2.2.2.2.2.2.1], 0, .ro)), (6, ([.ints .u8 x.2.2.2.2.2.2.2.2.2.1 x.2.2.2.2.2.2.2.2.2.2.1], 0, .ro)), (9, ([.ints .u32 8 x.2.2.2.2.2.2.2.2.2.2.2], 61, .norm))], 10⟩
def f21.s2b.inX : VS → Option (f21.Ty0)
  | ⟨[(0, .ptr 0 0), (5, .vw true 6 t5_0 t5_1 8), (8, .vw true 1 0 2 2), (9, .int .i64 2), (10, .int .i64 1)], [(0, ([.ptr 9 0, .ints .u8 64 b0_0, .int .i64 b0_1, .int .u64 b0_2], 66, .norm)), (1, ([.vw true 4 0 b1_0 5, .vw true 6 0 b1_1 7], 0, .ro)), (3, ([], 61, .dead)), (4, ([.ints .u8 b4_0 b4_1], 0, .ro)), (6, ([.ints .u8 b6_0 b6_1], 0, .ro)), (9, ([.ints .u32 8 b9], 61, .norm))], 10⟩ => some (t5_0, t5_1, b0_0, b0_1, b0_2, b1_0, b1_1, b4_0, b4_1, b6_0, b6_1, b9)
  | _ => none
def f21.s2b.o0 (y : f21.Ty1) : VS := ⟨[(0, .ptr 0 0), (8, .vw true 1 0 2 2), (9, .int .i64 2), (10, .int .i64 1)], [(0, ([.ptr 8 0, .ints .u8 64 y.1, .int .i64 y.2.1, .int .u64 y.2.2.1], 66, .norm)), (1, ([.vw true 4 0 y.2.2.2.1 5, .vw true 6 0 y.2.2.2.2.1 7], 0, .ro)), (3, ([], 61, .dead)), (4, ([.ints .u8 y.2.2.2.2.2.1 y.2.2.2.2.2.2.1], 0, .ro)), (6, ([.ints .u8 y.2.2.2.2.2.2.2.1 y.2.2.2.2.2.2.2.2.1], 0, .ro)), (8, ([.ints .u32 8 y.2.2.2.2.2.2.2.2.2], 61, .norm))], 9⟩
def f21.s2b.des : ∀ α : Type, (f21.Ty1) → (Ex → VS → Option α) → Option α := (des1 (.exit 2) f21.s2b.o0)
def f21.s2b.out : f21.Ty1 → Ex × VS := (fun y => (.exit 2, f21.s2b.o0 y))
theorem f21.s2b.desOK : ∀ α y (k : Ex → VS → Option α), f21.s2b.des α y k = k (f21.s2b.out y).1 (f21.s2b.out y).2 := (fun _ _ _ => rfl)
def f21.s2b.inY : Ex → VS → Option (f21.Ty1)
  | .exit 2, ⟨[(0, .ptr 0 0), (8, .vw true 1 0 2 2), (9, .int .i64 2), (10, .int .i64 1)], [(0, ([.ptr 8 0, .ints .u8 64 b0_0, .int .i64 b0_1, .int .u64 b0_2], 66, .norm)), (1, ([.vw true 4 0 b1_0 5, .vw true 6 0 b1_1 7], 0, .ro)), (3, ([], 61, .dead)), (4, ([.ints .u8 b4_0 b4_1], 0, .ro)), (6, ([.ints .u8 b6_0 b6_1], 0, .ro)), (8, ([.ints .u32 8 b8], 61, .norm))], 9⟩ => some (b0_0, b0_1, b0_2, b1_0, b1_1, b4_0, b4_1, b6_0, b6_1, b8)
  | _, _ => none
def f21.lp (K : Nat) : Nat → Option (Hint × Summ) := tabLp [(2, f21.s2.h, summOr f21.s2.inX (summOf (iter (f21.s2 K) K) f21.s2.inX f21.s2.des) (summOf (iter (f21.s2b K) K) f21.s2b.inX f21.s2b.des))]
noncomputable def f21.tab (K : Nat) : List (Nat × Entry) := [(30, (f30.E K))]
theorem f21.tabOK (K : Nat) : SpecOK Tryd.prog (tabSp (f21.tab K)) := tab_ok ((tab_cons (f30.ok K) tab_nil))
theorem f21.s2.eq (K : Nat) (rec : f21.Ty0 → Option (f21.Ty1)) (x : f21.Ty0) : f21.s2 K rec x = roundL (getA tys) (tabSp (f21.tab K)) 76 8 (f21.lp K) 400 f21.s2.b f21.s2.h f21.s2.ho f21.s2.shp f21.s2.inX f21.s2.inY rec x := by kernel_rfl
theorem f21.s2.lok (K : Nat) : LoopsOK Tryd.prog 76 8 (f21.lp K) f21.s2.b := loops_ok (by
  have h : loopsIn (f21.lp K) f21.s2.b = [] := by kernel_rfl
  rw [h]; simp)
theorem f21.s2.ok (K : Nat) : SummOK Tryd.prog 76 8 (summOf (iter (f21.s2 K) K) f21.s2.inX f21.s2.des) f21.s2.b :=
  loop_ok mix tys_ok (f21.tabOK K) (h := f21.s2.h) (ho := f21.s2.ho) (shp := f21.s2.shp) (inX := f21.s2.inX) (des := f21.s2.des) (out := f21.s2.out) (inY := f21.s2.inY) (fuel := 400)
    (by intro st x h; unfold f21.s2.inX at h; split at h <;> simp at h; subst h; rfl)
    (by intro e st y h; unfold f21.s2.inY at h; split at h <;> simp at h <;> subst h <;> rfl)
    f21.s2.desOK (f21.s2.lok K) (f21.s2 K) (f21.s2.eq K) K
theorem f21.s2b.eq (K : Nat) (rec : f21.Ty0 → Option (f21.Ty1)) (x : f21.Ty0) : f21.s2b K rec x = roundL (getA tys) (tabSp (f21.tab K)) 76 8 (f21.lp K) 400 f21.s2b.b f21.s2b.h f21.s2b.ho f21.s2b.shp f21.s2b.inX f21.s2b.inY rec x := by kernel_rfl
theorem f21.s2b.lok (K : Nat) : LoopsOK Tryd.prog 76 8 (f21.lp K) f21.s2b.b := loops_ok (by
  have h : loopsIn (f21.lp K) f21.s2b.b = [] := by kernel_rfl
  rw [h]; simp)
theorem f21.s2b.ok (K : Nat) : SummOK Tryd.prog 76 8 (summOf (iter (f21.s2b K) K) f21.s2b.inX f21.s2b.des) f21.s2b.b :=
  loop_ok mix tys_ok (f21.tabOK K) (h := f21.s2b.h) (ho := f21.s2b.ho) (shp := f21.s2b.shp) (inX := f21.s2b.inX) (des := f21.s2b.des) (out := f21.s2b.out) (inY := f21.s2b.inY) (fuel := 400)
    (by intro st x h; unfold f21.s2b.inX at h; split at h <;> simp at h; subst h; rfl)
    (by intro e st y h; unfold f21.s2b.inY at h; split at h <;> simp at h <;> subst h <;> rfl)
    f21.s2b.desOK (f21.s2b.lok K) (f21.s2b K) (f21.s2b.eq K) K
theorem f21.loops (K : Nat) : LoopsOK Tryd.prog 76 8 (f21.lp K) f21.c := loops_ok (by
  have h : loopsIn (f21.lp K) f21.c = [(2, f21.s2.b)] := by kernel_rfl
  rw [h]
  intro p hp
  simp only [List.mem_cons, List.not_mem_nil, or_false] at hp
  rcases hp with rfl
  · exact ⟨_, rfl, (summOr_ok (f21.s2.ok K) (f21.s2b.ok K))⟩)
def f21.T (K : Nat) (m0_0 : List Int) (m0_1 : Int) (m0_2 : Int) (m1_0 : Nat) (m1_1 : Nat) (m3 : List Int) (m4_0 : Nat) (m4_1 : List Int) (m6_0 : Nat) (m6_1 : List Int) : Option (f21.Ty1) :=
  (iter (f21.s2 K) K (0, m1_0, m0_0, m0_1, (IntKind.wrap .u64 (m0_2 + (IntKind.wrap .u64 ((m1_0 : Nat) : Int)))), m1_0, m1_1, m4_0, m4_1, m6_0, m6_1, m3)).bind fun y15 =>
  let v16 := y15.2.2.2.2.1
  (iter (f21.s2b K) K (0, v16, y15.1, y15.2.1, (IntKind.wrap .u64 (y15.2.2.1 + (IntKind.wrap .u64 ((v16 : Nat) : Int)))), y15.2.2.2.1, y15.2.2.2.2.1, y15.2.2.2.2.2.1, y15.2.2.2.2.2.2.1, y15.2.2.2.2.2.2.2.1, y15.2.2.2.2.2.2.2.2.1, y15.2.2.2.2.2.2.2.2.2)).bind fun y31 =>
  some (y31.1, y31.2.1, y31.2.2.1, y31.2.2.2.1, y31.2.2.2.2.1, y31.2.2.2.2.2.1, y31.2.2.2.2.2.2.1, y31.2.2.2.2.2.2.2.1, y31.2.2.2.2.2.2.2.2.1, y31.2.2.2.2.2.2.2.2.2)
def f21.F (K : Nat) (x : f21.Ty2) : Option (f21.Ty1) := f21.T K x.1 x.2.1 x.2.2.1 x.2.2.2.1 x.2.2.2.2.1 x.2.2.2.2.2.1 x.2.2.2.2.2.2.1 x.2.2.2.2.2.2.2.1 x.2.2.2.2.2.2.2.2.1 x.2.2.2.2.2.2.2.2.2
def f21.av (_x : f21.Ty2) : List VV := [.ptr 0 0, .vw true 1 0 2 2]
def f21.bl (x : f21.Ty2) : List (Nat × Blk) := [(0, ([.ptr 3 0, .ints .u8 64 x.1, .int .i64 x.2.1, .int .u64 x.2.2.1], 66, .norm)), (1, ([.vw true 4 0 x.2.2.2.1 5, .vw true 6 0 x.2.2.2.2.1 7], 0, .ro)), (3, ([.ints .u32 8 x.2.2.2.2.2.1], 61, .norm)), (4, ([.ints .u8 x.2.2.2.2.2.2.1 x.2.2.2.2.2.2.2.1], 0, .ro)), (6, ([.ints .u8 x.2.2.2.2.2.2.2.2.1 x.2.2.2.2.2.2.2.2.2], 0, .ro))]
def f21.inA : VS → Option (f21.Ty2)
  | ⟨[(0, .ptr 0 0), (1, .vw true 1 0 2 2)], [(0, ([.ptr 3 0, .ints .u8 64 m0_0, .int .i64 m0_1, .int .u64 m0_2], 66, .norm)), (1, ([.vw true 4 0 m1_0 5, .vw true 6 0 m1_1 7], 0, .ro)), (3, ([.ints .u32 8 m3], 61, .norm)), (4, ([.ints .u8 m4_0 m4_1], 0, .ro)), (6, ([.ints .u8 m6_0 m6_1], 0, .ro))], 8⟩ => some (m0_0, m0_1, m0_2, m1_0, m1_1, m3, m4_0, m4_1, m6_0, m6_1)
  | _ => none
def f21.o0 (y : f21.Ty1) : VS := ⟨[(0, .tup [])], [(0, ([.ptr 8 0, .ints .u8 64 y.1, .int .i64 y.2.1, .int .u64 y.2.2.1], 66, .norm)), (1, ([.vw true 4 0 y.2.2.2.1 5, .vw true 6 0 y.2.2.2.2.1 7], 0, .ro)), (3, ([], 61, .dead)), (4, ([.ints .u8 y.2.2.2.2.2.1 y.2.2.2.2.2.2.1], 0, .ro)), (6, ([.ints .u8 y.2.2.2.2.2.2.2.1 y.2.2.2.2.2.2.2.2.1], 0, .ro)), (8, ([.ints .u32 8 y.2.2.2.2.2.2.2.2.2], 61, .norm))], 9⟩
def f21.des : ∀ α : Type, (f21.Ty1) → (VS → Option α) → Option α := (dv1 f21.o0)
def f21.out : f21.Ty1 → VS := f21.o0
def f21.inR : VS → Option (f21.Ty1)
  | ⟨[(0, .tup [])], [(0, ([.ptr 8 0, .ints .u8 64 z0_0, .int .i64 z0_1, .int .u64 z0_2], 66, .norm)), (1, ([.vw true 4 0 z1_0 5, .vw true 6 0 z1_1 7], 0, .ro)), (3, ([], 61, .dead)), (4, ([.ints .u8 z4_0 z4_1], 0, .ro)), (6, ([.ints .u8 z6_0 z6_1], 0, .ro)), (8, ([.ints .u32 8 z8], 61, .norm))], 9⟩ => some (z0_0, z0_1, z0_2, z1_0, z1_1, z4_0, z4_1, z6_0, z6_1, z8)
  | _ => none
noncomputable def f21.E (K : Nat) : Entry := genE 8 f21.inA (f21.F K) f21.des
theorem f21.eq (K : Nat) (x : f21.Ty2) : f21.F K x = xrun (getA tys) (tabSp (f21.tab K)) Tryd.f21.ntmps 8 (f21.lp K) 400 f21.c ⟨initL 0 (f21.av x), f21.bl x, 8⟩ (contF (getA tys) 8 Tryd.f21.results.toList f21.inR) := by kernel_rfl
theorem f21.ok (K : Nat) : EntryOK Tryd.prog 21 (f21.E K) :=
  gen_ok mix tys_ok (f21.tabOK K) Tryd.func21 (by kernel_rfl : Tryd.f21.body = some f21.c) (by kernel_rfl) (f21.loops K) (av := f21.av) (bl := f21.bl) (out := f21.out) (fuel := 400)
    (by intro s x h; unfold f21.inA at h; split at h <;> simp at h; subst h; rfl) (fun _ => Nat.le_of_ble_eq_true rfl)
    (by intro s y h; unfold f21.inR at h; split at h <;> simp at h <;> subst h <;> rfl) (fun _ _ _ => rfl) (f21.eq K)
end Go.Proofs

namespace Go.Proofs
open Go.VM
abbrev f21v1.Ty0 := Nat × Nat × List Int × Int × Int × Nat × Nat × List Int × List Int
abbrev f21v1.Ty1 := List Int × Int × Int × Nat × Nat × List Int × List Int
abbrev f21v1.Ty2 := List Int × Int × Int × Nat × List Int × Nat × List Int
noncomputable def f21v1.c : Code := bodyOf Tryd.f21
def f21v1.s2t (K : Nat) (rec : f21v1.Ty0 → Option (f21v1.Ty1)) (t5_0 : Nat) (t5_1 : Nat) (b0_0 : List Int) (b0_1 : Int) (b0_2 : Int) (b1 : Nat) (b4_0 : Nat) (b4_1 : List Int) (b7 : List Int) : Option (f21v1.Ty1) :=
  bif (decide (((t5_1 : Nat) : Int) > 0)) then
    bif decide (0 ≤ b0_1 ∧ b0_1 ≤ 64) then
      let v6 := bif Nat.beq 64 (Int.toNat b0_1) then 0 else (Int.toNat b0_1)
      let v7 := 64 - (Int.toNat b0_1)
      bif (((Nat.ble (t5_0 + t5_1) b4_0 && true) && (Nat.ble (v6 + v7) 64)) && (Nat.beq t5_1 t5_1)) then
        let v9 := ((Nat.min t5_1 v7 : Nat) : Int)
        let v10 := spl b0_0 v6 (Nat.min t5_1 v7) (subI b4_1 t5_0 t5_1)
        bif decide (0 ≤ v9 ∧ v9 ≤ ((t5_1 : Nat) : Int)) then
          let v11 := t5_0 + (Int.toNat v9)
          let v12 := t5_1 - (Int.toNat v9)
          let v13 := IntKind.wrap .i64 (b0_1 + v9)
          bif (v13 == 64) then
            (f30.F K (b7, v10, v13, b0_2, b7)).bind fun y14 =>
            rec (v11, v12, y14.2.1, 0, y14.2.2.2.1, b1, b4_0, b4_1, y14.1)
          else
            rec (v11, v12, v10, v13, b0_2, b1, b4_0, b4_1, b7)
        else
          none
      else
        none
    else
      none
  else
    some (b0_0, b0_1, b0_2, b1, b4_0, b4_1, b7)
def f21v1.s2 (K : Nat) (rec : f21v1.Ty0 → Option (f21v1.Ty1)) (x : f21v1.Ty0) : Option (f21v1.Ty1) := f21v1.s2t K rec x.1 x.2.1 x.2.2.1 x.2.2.2.1 x.2.2.2.2.1 x.2.2.2.2.2.1 x.2.2.2.2.2.2.1 x.2.2.2.2.2.2.2.1 x.2.2.2.2.2.2.2.2
noncomputable def f21v1.s2.b : Code := (findLoop 2 f21v1.c).getD .skip
def f21v1.s2.h : Hint := { lv := [0, 5, 8, 9, 10], co := [(5, 0, [])], mv := [3] }
def f21v1.s2.ho : Hint := { lv := [0, 8, 9, 10] }
def f21v1.s2.shp (x : f21v1.Ty0) : VS := ⟨[(0, .ptr 0 0), (5, .vw true 4 x.1 x.2.1 6), (8, .vw true 1 0 1 2), (9, .int .i64 1), (10, .int .i64 0)], [(0, ([.ptr 7 0, .ints .u8 64 x.2.2.1, .int .i64 x.2.2.2.1, .int .u64 x.2.2.2.2.1], 66, .norm)), (1, ([.vw true 4 0 x.2.2.2.2.2.1 5], 0, .ro)), (3, ([], 61, .dead)), (4, ([.ints .u8 x.2.2.2.2.2.2.1 x.2.2.2.2.2.2.2.1], 0, .ro)), (7, ([.ints .u32 8 x.2.2.2.2.2.2.2.2], 61, .norm))], 8⟩
def f21v1.s2.inX : VS → Option (f21v1.Ty0)
  | ⟨[(0, .ptr 0 0), (5, .vw true 4 t5_0 t5_1 6), (8, .vw true 1 0 1 2), (9, .int .i64 1), (10, .int .i64 0)], [(0, ([.ptr 7 0, .ints .u8 64 b0_0, .int .i64 b0_1, .int .u64 b0_2], 66, .norm)), (1, ([.vw true 4 0 b1 5], 0, .ro)), (3, ([], 61, .dead)), (4, ([.ints .u8 b4_0 b4_1], 0, .ro)), (7, ([.ints .u32 8 b7], 61, .norm))], 8⟩ => some (t5_0, t5_1, b0_0, b0_1, b0_2, b1, b4_0, b4_1, b7)
  | _ => none
def f21v1.s2.o0 (y : f21v1.Ty1) : VS := ⟨[(0, .ptr 0 0), (8, .vw true 1 0 1 2), (9, .int .i64 1), (10, .int .i64 0)], [(0, ([.ptr 6 0, .ints .u8 64 y.1, .int .i64 y.2.1, .int .u64 y.2.2.1], 66, .norm)), (1, ([.vw true 4 0 y.2.2.2.1 5], 0, .ro)), (3, ([], 61, .dead)), (4, ([.ints .u8 y.2.2.2.2.1 y.2.2.2.2.2.1], 0, .ro)), (6, ([.ints .u32 8 y.2.2.2.2.2.2], 61, .norm))], 7⟩
def f21v1.s2.des : ∀ α : Type, (f21v1.Ty1) → (Ex → VS → Option α) → Option α := (des1 (.exit 2) f21v1.s2.o0)
def f21v1.s2.out : f21v1.Ty1 → Ex × VS := (fun y => (.exit 2, f21v1.s2.o0 y))
theorem f21v1.s2.desOK : ∀ α y (k : Ex → VS → Option α), f21v1.s2.des α y k = k (f21v1.s2.out y).1 (f21v1.s2.out y).2 := (fun _ _ _ => rfl)
def f21v1.s2.inY : Ex → VS → Option (f21v1.Ty1)
  | .exit 2, ⟨[(0, .ptr 0 0), (8, .vw true 1 0 1 2), (9, .int .i64 1), (10, .int .i64 0)], [(0, ([.ptr 6 0, .ints .u8 64 b0_0, .int .i64 b0_1, .int .u64 b0_2], 66, .norm)), (1, ([.vw true 4 0 b1 5], 0, .ro)), (3, ([], 61, .dead)), (4, ([.ints .u8 b4_0 b4_1], 0, .ro)), (6, ([.ints .u32 8 b6], 61, .norm))], 7⟩ => some (b0_0, b0_1, b0_2, b1, b4_0, b4_1, b6)
  | _, _ => none
def f21v1.lp (K : Nat) : Nat → Option (Hint × Summ) := tabLp [(2, f21v1.s2.h, summOf (iter (f21v1.s2 K) K) f21v1.s2.inX f21v1.s2.des)]
noncomputable def f21v1.tab (K : Nat) : List (Nat × Entry) := [(30, (f30.E K))]
theorem f21v1.tabOK (K : Nat) : SpecOK Tryd.prog (tabSp (f21v1.tab K)) := tab_ok ((tab_cons (f30.ok K) tab_nil))
theorem f21v1.s2.eq (K : Nat) (rec : f21v1.Ty0 → Option (f21v1.Ty1)) (x : f21v1.Ty0) : f21v1.s2 K rec x = roundL (getA tys) (tabSp (f21v1.tab K)) 76 6 (f21v1.lp K) 400 f21v1.s2.b f21v1.s2.h f21v1.s2.ho f21v1.s2.shp f21v1.s2.inX f21v1.s2.inY rec x := by kernel_rfl
theorem f21v1.s2.lok (K : Nat) : LoopsOK Tryd.prog 76 6 (f21v1.lp K) f21v1.s2.b := loops_ok (by
  have h : loopsIn (f21v1.lp K) f21v1.s2.b = [] := by kernel_rfl
  rw [h]; simp)
theorem f21v1.s2.ok (K : Nat) : SummOK Tryd.prog 76 6 (summOf (iter (f21v1.s2 K) K) f21v1.s2.inX f21v1.s2.des) f21v1.s2.b :=
  loop_ok mix tys_ok (f21v1.tabOK K) (h := f21v1.s2.h) (ho := f21v1.s2.ho) (shp := f21v1.s2.shp) (inX := f21v1.s2.inX) (des := f21v1.s2.des) (out := f21v1.s2.out) (inY := f21v1.s2.inY) (fuel := 400)
    (by intro st x h; unfold f21v1.s2.inX at h; split at h <;> simp at h; subst h; rfl)
    (by intro e st y h; unfold f21v1.s2.inY at h; split at h <;> simp at h <;> subst h <;> rfl)
    f21v1.s2.desOK (f21v1.s2.lok K) (f21v1.s2 K) (f21v1.s2.eq K) K
theorem f21v1.loops (K : Nat) : LoopsOK Tryd.prog 76 6 (f21v1.lp K) f21v1.c := loops_ok (by
  have h : loopsIn (f21v1.lp K) f21v1.c = [(2, f21v1.s2.b)] := by kernel_rfl
  rw [h]
  intro p hp
  simp only [List.mem_cons, List.not_mem_nil, or_false] at hp
  rcases hp with rfl
  · exact ⟨_, rfl, (f21v1.s2.ok K)⟩)
def f21v1.T (K : Nat) (m0_0 : List Int) (m0_1 : Int) (m0_2 : Int) (m1 : Nat) (m3 : List Int) (m4_0 : Nat) (m4_1 : List Int) : Option (f21v1.Ty1) :=
  (iter (f21v1.s2 K) K (0, m1, m0_0, m0_1, (IntKind.wrap .u64 (m0_2 + (IntKind.wrap .u64 ((m1 : Nat) : Int)))), m1, m4_0, m4_1, m3)).bind fun y15 =>
  some (y15.1, y15.2.1, y15.2.2.1, y15.2.2.2.1, y15.2.2.2.2.1, y15.2.2.2.2.2.1, y15.2.2.2.2.2.2)
def f21v1.F (K : Nat) (x : f21v1.Ty2) : Option (f21v1.Ty1) := f21v1.T K x.1 x.2.1 x.2.2.1 x.2.2.2.1 x.2.2.2.2.1 x.2.2.2.2.2.1 x.2.2.2.2.2.2
def f21v1.av (_x : f21v1.Ty2) : List VV := [.ptr 0 0, .vw true 1 0 1 2]
def f21v1.bl (x : f21v1.Ty2) : List (Nat × Blk) := [(0, ([.ptr 3 0, .ints .u8 64 x.1, .int .i64 x.2.1, .int .u64 x.2.2.1], 66, .norm)), (1, ([.vw true 4 0 x.2.2.2.1 5], 0, .ro)), (3, ([.ints .u32 8 x.2.2.2.2.1], 61, .norm)), (4, ([.ints .u8 x.2.2.2.2.2.1 x.2.2.2.2.2.2], 0, .ro))]
def f21v1.inA : VS → Option (f21v1.Ty2)
  | ⟨[(0, .ptr 0 0), (1, .vw true 1 0 1 2)], [(0, ([.ptr 3 0, .ints .u8 64 m0_0, .int .i64 m0_1, .int .u64 m0_2], 66, .norm)), (1, ([.vw true 4 0 m1 5], 0, .ro)), (3, ([.ints .u32 8 m3], 61, .norm)), (4, ([.ints .u8 m4_0 m4_1], 0, .ro))], 6⟩ => some (m0_0, m0_1, m0_2, m1, m3, m4_0, m4_1)
  | _ => none
def f21v1.o0 (y : f21v1.Ty1) : VS := ⟨[(0, .tup [])], [(0, ([.ptr 6 0, .ints .u8 64 y.1, .int .i64 y.2.1, .int .u64 y.2.2.1], 66, .norm)), (1, ([.vw true 4 0 y.2.2.2.1 5], 0, .ro)), (3, ([], 61, .dead)), (4, ([.ints .u8 y.2.2.2.2.1 y.2.2.2.2.2.1], 0, .ro)), (6, ([.ints .u32 8 y.2.2.2.2.2.2], 61, .norm))], 7⟩
def f21v1.des : ∀ α : Type, (f21v1.Ty1) → (VS → Option α) → Option α := (dv1 f21v1.o0)
def f21v1.out : f21v1.Ty1 → VS := f21v1.o0
def f21v1.inR : VS → Option (f21v1.Ty1)
  | ⟨[(0, .tup [])], [(0, ([.ptr 6 0, .ints .u8 64 z0_0, .int .i64 z0_1, .int .u64 z0_2], 66, .norm)), (1, ([.vw true 4 0 z1 5], 0, .ro)), (3, ([], 61, .dead)), (4, ([.ints .u8 z4_0 z4_1], 0, .ro)), (6, ([.ints .u32 8 z6], 61, .norm))], 7⟩ => some (z0_0, z0_1, z0_2, z1, z4_0, z4_1, z6)
  | _ => none
noncomputable def f21v1.E (K : Nat) : Entry := genE 6 f21v1.inA (f21v1.F K) f21v1.des
theorem f21v1.eq (K : Nat) (x : f21v1.Ty2) : f21v1.F K x = xrun (getA tys) (tabSp (f21v1.tab K)) Tryd.f21.ntmps 6 (f21v1.lp K) 400 f21v1.c ⟨initL 0 (f21v1.av x), f21v1.bl x, 6⟩ (contF (getA tys) 6 Tryd.f21.results.toList f21v1.inR) := by kernel_rfl
theorem f21v1.ok (K : Nat) : EntryOK Tryd.prog 21 (f21v1.E K) :=
  gen_ok mix tys_ok (f21v1.tabOK K) Tryd.func21 (by kernel_rfl : Tryd.f21.body = some f21v1.c) (by kernel_rfl) (f21v1.loops K) (av := f21v1.av) (bl := f21v1.bl) (out := f21v1.out) (fuel := 400)
    (by intro s x h; unfold f21v1.inA at h; split at h <;> simp at h; subst h; rfl) (fun _ => Nat.le_of_ble_eq_true rfl)
    (by intro s y h; unfold f21v1.inR at h; split at h <;> simp at h <;> subst h <;> rfl) (fun _ _ _ => rfl) (f21v1.eq K)
end Go.Proofs

namespace Go.Proofs
open Go.VM
abbrev f21v2.Ty0 := Nat × Nat × List Int × Int × Int × Nat × Nat × Nat × Nat × List Int × Nat × List Int × Nat × List Int × List Int
abbrev f21v2.Ty1 := List Int × Int × Int × Nat × Nat × Nat × Nat × List Int × Nat × List Int × Nat × List Int × List Int
abbrev f21v2.Ty2 := List Int × Int × Int × Nat × Nat × Nat × List Int × Nat × List Int × Nat × List Int × Nat × List Int
noncomputable def f21v2.c : Code := bodyOf Tryd.f21
def f21v2.s2t (K : Nat) (rec : f21v2.Ty0 → Option (f21v2.Ty1)) (t5_0 : Nat) (t5_1 : Nat) (b0_0 : List Int) (b0_1 : Int) (b0_2 : Int) (b1_0 : Nat) (b1_1 : Nat) (b1_2 : Nat) (b4_0 : Nat) (b4_1 : List Int) (b6_0 : Nat) (b6_1 : List Int) (b8_0 : Nat) (b8_1 : List Int) (b11 : List Int) : Option (f21v2.Ty1) :=
  bif (decide (((t5_1 : Nat) : Int) > 0)) then
    bif decide (0 ≤ b0_1 ∧ b0_1 ≤ 64) then
      let v6 := bif Nat.beq 64 (Int.toNat b0_1) then 0 else (Int.toNat b0_1)
      let v7 := 64 - (Int.toNat b0_1)
      bif (((Nat.ble (t5_0 + t5_1) b4_0 && true) && (Nat.ble (v6 + v7) 64)) && (Nat.beq t5_1 t5_1)) then
        let v9 := ((Nat.min t5_1 v7 : Nat) : Int)
        let v10 := spl b0_0 v6 (Nat.min t5_1 v7) (subI b4_1 t5_0 t5_1)
        bif decide (0 ≤ v9 ∧ v9 ≤ ((t5_1 : Nat) : Int)) then
          let v11 := t5_0 + (Int.toNat v9)
          let v12 := t5_1 - (Int.toNat v9)
          let v13 := IntKind.wrap .i64 (b0_1 + v9)
          bif (v13 == 64) then
            (f30.F K (b11, v10, v13, b0_2, b11)).bind fun y14 =>
            rec (v11, v12, y14.2.1, 0, y14.2.2.2.1, b1_0, b1_1, b1_2, b4_0, b4_1, b6_0, b6_1, b8_0, b8_1, y14.1)
          else
            rec (v11, v12, v10, v13, b0_2, b1_0, b1_1, b1_2, b4_0, b4_1, b6_0, b6_1, b8_0, b8_1, b11)
        else
          none
      else
        none
    else
      none
  else
    some (b0_0, b0_1, b0_2, b1_0, b1_1, b1_2, b4_0, b4_1, b6_0, b6_1, b8_0, b8_1, b11)
def f21v2.s2 (K : Nat) (rec : f21v2.Ty0 → Option (f21v2.Ty1)) (x : f21v2.Ty0) : Option (f21v2.Ty1) := f21v2.s2t K rec x.1 x.2.1 x.2.2.1 x.2.2.2.1 x.2.2.2.2.1 x.2.2.2.2.2.1 x.2.2.2.2.2.2.1 x.2.2.2.2.2.2.2.1 x.2.2.2.2.2.2.2.2.1 x.2.2.2.2.2.2.2.2.2.1 x.2.2.2.2.2.2.2.2.2.2.1 x.2.2.2.2.2.2.2.2.2.2.2.1 x.2.2.2.2.2.2.2.2.2.2.2.2.1 x.2.2.2.2.2.2.2.2.2.2.2.2.2.1 x.2.2.2.2.2.2.2.2.2.2.2.2.2.2
noncomputable def f21v2.s2.b : Code := (findLoop 2 f21v2.c).getD .skip
def f21v2.s2.h : Hint := { lv := [0, 5, 8, 9, 10], co := [(5, 0, [])], mv := [3] }
def f21v2.s2.ho : Hint := { lv := [0, 8, 9, 10] }
def f21v2.s2.shp (x : f21v2.Ty0) : VS := ⟨[(0, .ptr 0 0), (5, .vw true 4 x.1 x.2.1 10), (8, .vw true 1 0 3 2), (9, .int .i64 3), (10, .int .i64 0)], [(0, ([.ptr 11 0, .ints .u8 64 x.2.2.1, .int .i64 x.2.2.2.1, .int .u64 x.2.2.2.2.1], 66, .norm)), (1, ([.vw true 4 0 x.2.2.2.2.2.1 5, .vw true 6 0 x.2.2.2.2.2.2.1 7, .vw true 8 0 x.2.2.2.2.2.2.2.1 9], 0, .ro)), (3, ([], 61, .dead)), (4, ([.ints .u8 x.2.2.2.2.2.2.2.2.1 x.2.2.2.2.2.2.2.2.2.1], 0, .ro)), (6, ([.ints .u8 x.2.2.2.2.2.2.2.2.2.2.1 x.2.2.2.2.2.2.2.2.2.2.2.1], 0, .ro)), (8, ([.ints .u8 x.2.2.2.2.2.2.2.2.2.2.2.2.1 x.2.2.2.2.2.2.2.2.2.2.2.2.2.1], 0, .ro)), (11, ([.ints .u32 8 x.2.2.2.2.2.2.2.2.2.2.2.2.2.2], 61, .norm))], 12⟩
def f21v2.s2.inX : VS → Option (f21v2.Ty0)
  | ⟨[(0, .ptr 0 0), (5, .vw true 4 t5_0 t5_1 10), (8, .vw true 1 0 3 2), (9, .int .i64 3), (10, .int .i64 0)], [(0, ([.ptr 11 0, .ints .u8 64 b0_0, .int .i64 b0_1, .int .u64 b0_2], 66, .norm)), (1, ([.vw true 4 0 b1_0 5, .vw true 6 0 b1_1 7, .vw true 8 0 b1_2 9], 0, .ro)), (3, ([], 61, .dead)), (4, ([.ints .u8 b4_0 b4_1], 0, .ro)), (6, ([.ints .u8 b6_0 b6_1], 0, .ro)), (8, ([.ints .u8 b8_0 b8_1], 0, .ro)), (11, ([.ints .u32 8 b11], 61, .norm))], 12⟩ => some (t5_0, t5_1, b0_0, b0_1, b0_2, b1_0, b1_1, b1_2, b4_0, b4_1, b6_0, b6_1, b8_0, b8_1, b11)
  | _ => none
def f21v2.s2.o0 (y : f21v2.Ty1) : VS := ⟨[(0, .ptr 0 0), (8, .vw true 1 0 3 2), (9, .int .i64 3), (10, .int .i64 0)], [(0, ([.ptr 10 0, .ints .u8 64 y.1, .int .i64 y.2.1, .int .u64 y.2.2.1], 66, .norm)), (1, ([.vw true 4 0 y.2.2.2.1 5, .vw true 6 0 y.2.2.2.2.1 7, .vw true 8 0 y.2.2.2.2.2.1 9], 0, .ro)), (3, ([], 61, .dead)), (4, ([.ints .u8 y.2.2.2.2.2.2.1 y.2.2.2.2.2.2.2.1], 0, .ro)), (6, ([.ints .u8 y.2.2.2.2.2.2.2.2.1 y.2.2.2.2.2.2.2.2.2.1], 0, .ro)), (8, ([.ints .u8 y.2.2.2.2.2.2.2.2.2.2.1 y.2.2.2.2.2.2.2.2.2.2.2.1], 0, .ro)), (10, ([.ints .u32 8 y.2.2.2.2.2.2.2.2.2.2.2.2], 61, .norm))], 11⟩
def f21v2.s2.des : ∀ α : Type, (f21v2.Ty1) → (Ex → VS → Option α) → Option α := (des1 (.exit 2) f21v2.s2.o0)
def f21v2.s2.out : f21v2.Ty1 → Ex × VS := (fun y => (.exit 2, f21v2.s2.o0 y))
theorem f21v2.s2.desOK : ∀ α y (k : Ex → VS → Option α), f21v2.s2.des α y k = k (f21v2.s2.out y).1 (f21v2.s2.out y).2 := (fun _ _ _ => rfl)
def f21v2.s2.inY : Ex → VS → Option (f21v2.Ty1)
  | .exit 2, ⟨[(0, .ptr 0 0), (8, .vw true 1 0 3 2), (9, .int .i64 3), (10, .int .i64 0)], [(0, ([.ptr 10 0, .ints .u8 64 b0_0, .int .i64 b0_1, .int .u64 b0_2], 66, .norm)), (1, ([.vw true 4 0 b1_0 5, .vw true 6 0 b1_1 7, .vw true 8 0 b1_2 9], 0, .ro)), (3, ([], 61, .dead)), (4, ([.ints .u8 b4_0 b4_1], 0, .ro)), (6, ([.ints .u8 b6_0 b6_1], 0, .ro)), (8, ([.ints .u8 b8_0 b8_1], 0, .ro)), (10, ([.ints .u32 8 b10], 61, .norm))], 11⟩ => some (b0_0, b0_1, b0_2, b1_0, b1_1, b1_2, b4_0, b4_1, b6_0, b6_1, b8_0, b8_1, b10)
  | _, _ => none
def f21v2.s2bt (K : Nat) (rec : f21v2.Ty0 → Option (f21v2.Ty1)) (t5_0 : Nat) (t5_1 : Nat) (b0_0 : List Int) (b0_1 : Int) (b0_2 : Int) (b1_0 : Nat) (b1_1 : Nat) (b1_2 : Nat) (b4_0 : Nat) (b4_1 : List Int) (b6_0 : Nat) (b6_1 : List Int) (b8_0 : Nat) (b8_1 : List Int) (b11 : List Int) : Option (f21v2.Ty1) :=
  bif (decide (((t5_1 : Nat) : Int) > 0)) then
    bif decide (0 ≤ b0_1 ∧ b0_1 ≤ 64) then
      let v22 := bif Nat.beq 64 (Int.toNat b0_1) then 0 else (Int.toNat b0_1)
      let v23 := 64 - (Int.toNat b0_1)
      bif (((Nat.ble (t5_0 + t5_1) b6_0 && true) && (Nat.ble (v22 + v23) 64)) && (Nat.beq t5_1 t5_1)) then
        let v25 := ((Nat.min t5_1 v23 : Nat) : Int)
        let v26 := spl b0_0 v22 (Nat.min t5_1 v23) (subI b6_1 t5_0 t5_1)
        bif decide (0 ≤ v25 ∧ v25 ≤ ((t5_1 : Nat) : Int)) then
          let v27 := t5_0 + (Int.toNat v25)
          let v28 := t5_1 - (Int.toNat v25)
          let v29 := IntKind.wrap .i64 (b0_1 + v25)
          bif (v29 == 64) then
            (f30.F K (b11, v26, v29, b0_2, b11)).bind fun y30 =>
            rec (v27, v28, y30.2.1, 0, y30.2.2.2.1, b1_0, b1_1, b1_2, b4_0, b4_1, b6_0, b6_1, b8_0, b8_1, y30.1)
          else
            rec (v27, v28, v26, v29, b0_2, b1_0, b1_1, b1_2, b4_0, b4_1, b6_0, b6_1, b8_0, b8_1, b11)
        else
          none
      else
        none
    else
      none
  else
    some (b0_0, b0_1, b0_2, b1_0, b1_1, b1_2, b4_0, b4_1, b6_0, b6_1, b8_0, b8_1, b11)
def f21v2.s2b (K : Nat) (rec : f21v2.Ty0 → Option (f21v2.Ty1)) (x : f21v2.Ty0) : Option (f21v2.Ty1) := f21v2.s2bt K rec x.1 x.2.1 x.2.2.1 x.2.2.2.1 x.2.2.2.2.1 x.2.2.2.2.2.1 x.2.2.2.2.2.2.1 x.2.2.2.2.2.2.2.1 x.2.2.2.2.2.2.2.2.1 x.2.2.2.2.2.2.2.2.2.1 x.2.2.2.2.2.2.2.2.2.2.1 x.2.2.2.2.2.2.2.2.2.2.2.1 x.2.2.2.2.2.2.2.2.2.2.2.2.1 x.2.2.2.2.2.2.2.2.2.2.2.2.2.1 x.2.2.2.2.2.2.2.2.2.2.2.2.2.2
noncomputable def f21v2.s2b.b : Code := (findLoop 2 f21v2.c).getD .skip
def f21v2.s2b.h : Hint := { lv := [0, 5, 8, 9, 10], co := [(5, 0, [])], mv := [3] }
def f21v2.s2b.ho : Hint := { lv := [0, 8, 9, 10] }
def f21v2.s2b.shp (x : f21v2.Ty0) : VS := ⟨[(0, .ptr 0 0), (5, .vw true 6 x.1 x.2.1 10), (8, .vw true 1 0 3 2), (9, .int .i64 3), (10, .int .i64 1)], [(0, ([.ptr 11 0, .ints .u8 64 x.2.2.1, .int .i64 x.2.2.2.1, .int .u64 x.2.2.2.2.1], 66, .norm)), (1, ([.vw true 4 0 x.2.2.2.2.2.1 5, .vw true 6 0 x.2.2.2.2.2.2.1 7, .vw true 8 0 x.2.2.2.2.2.2.2.1 9], 0, .ro)), (3, ([], 61, .dead)), (4, ([.ints .u8 x.2.2.2.2.2.2.2.2.1 x.2.2.2.2.2.2.2.2.2.1], 0, .ro)), (6, ([.ints .u8 x.2.2.2.2.2.2.2.2.2.2.1 x.2.2.2.2.2.2.2.2.2.2.2.1], 0, .ro)), (8, ([.ints .u8 x.2.2.2.2.2.2.2.2.2.2.2.2.1 x.2.2.2.2.2.2.2.2.2.2.2.2.2.1], 0, .ro)), (11, ([.ints .u32 8 x.2.2.2.2.2.2.2.2.2.2.2.2.2.2], 61, .norm))], 12⟩
def f21v2.s2b.inX : VS → Option (f21v2.Ty0)
  | ⟨[(0, .ptr 0 0), (5, .vw true 6 t5_0 t5_1 10), (8, .vw true 1 0 3 2), (9, .int .i64 3), (10, .int .i64 1)], [(0, ([.ptr 11 0, .ints .u8 64 b0_0, .int .i64 b0_1, .int .u64 b0_2], 66, .norm)), (1, ([.vw true 4 0 b1_0 5, .vw true 6 0 b1_1 7, .vw true 8 0 b1_2 9], 0, .ro)), (3, ([], 61, .dead)), (4, ([.ints .u8 b4_0 b4_1], 0, .ro)), (6, ([.ints .u8 b6_0 b6_1], 0, .ro)), (8, ([.ints .u8 b8_0 b8_1], 0, .ro)), (11, ([.ints .u32 8 b11], 61, .norm))], 12⟩ => some (t5_0, t5_1, b0_0, b0_1, b0_2, b1_0, b1_1, b1_2, b4_0, b4_1, b6_0, b6_1, b8_0, b8_1, b11)
  | _ => none
def f21v2.s2b.o0 (y : f21v2.Ty1) : VS := ⟨[(0, .ptr 0 0), (8, .vw true 1 0 3 2), (9, .int .i64 3), (10, .int .i64 1)], [(0, ([.ptr 10 0, .ints .u8 64 y.1, .int .i64 y.2.1, .int .u64 y.2.2.1], 66, .norm)), (1, ([.vw true 4 0 y.2.2.2.1 5, .vw true 6 0 y.2.2.2.2.1 7, .vw true 8 0 y.2.2.2.2.2.1 9], 0, .ro)), (3, ([], 61, .dead)), (4, ([.ints .u8 y.2.2.2.2.2.2.1 y.2.2.2.2.2.2.2.1], 0, .ro)), (6, ([.ints .u8 y.2.2.2.2.2.2.2.2.1 y.2.2.2.2.2.2.2.2.2.1], 0, .ro)), (8, ([.ints .u8 y.2.2.2.2.2.2.2.2.2.2.1 y.2.2.2.2.2.2.2.2.2.2.2.1], 0, .ro)), (10, ([.ints .u32 8 y.2.2.2.2.2.2.2.2.2.2.2.2], 61, .norm))], 11⟩
def f21v2.s2b.des : ∀ α : Type, (f21v2.Ty1) → (Ex → VS → Option α) → Option α := (des1 (.exit 2) f21v2.s2b.o0)
def f21v2.s2b.out : f21v2.Ty1 → Ex × VS := (fun y => (.exit 2, f21v2.s2b.o0 y))
theorem f21v2.s2b.desOK : ∀ α y (k : Ex → VS → Option α), f21v2.s2b.des α y k = k (f21v2.s2b.out y).1 (f21v2.s2b.out y).2 := (fun _ _ _ => rfl)
def f21v2.s2b.inY : Ex → VS → Option (f21v2.Ty1)
  | .exit 2, ⟨[(0, .ptr 0 0), (8, .vw true 1 0 3 2), (9, .int .i64 3), (10, .int .i64 1)], [(0, ([.ptr 10 0, .ints .u8 64 b0_0, .int .i64 b0_1, .int .u64 b0_2], 66, .norm)), (1, ([.vw true 4 0 b1_0 5, .vw true 6 0 b1_1 7, .vw true 8 0 b1_2 9], 0, .ro)), (3, ([], 61, .dead)), (4, ([.ints .u8 b4_0 b4_1], 0, .ro)), (6, ([.ints .u8 b6_0 b6_1], 0, .ro)), (8, ([.ints .u8 b8_0 b8_1], 0, .ro)), (10, ([.ints .u32 8 b10], 61, .norm))], 11⟩ => some (b0_0, b0_1, b0_2, b1_0, b1_1, b1_2, b4_0, b4_1, b6_0, b6_1, b8_0, b8_1, b10)
  | _, _ => none
def f21v2.s2ct (K : Nat) (rec : f21v2.Ty0 → Option (f21v2.Ty1)) (t5_0 : Nat) (t5_1 : Nat) (b0_0 : List Int) (b0_1 : Int) (b0_2 : Int) (b1_0 : Nat) (b1_1 : Nat) (b1_2 : Nat) (b4_0 : Nat) (b4_1 : List Int) (b6_0 : Nat) (b6_1 : List Int) (b8_0 : Nat) (b8_1 : List Int) (b11 : List Int) : Option (f21v2.Ty1) :=
  bif (decide (((t5_1 : Nat) : Int) > 0)) then
    bif decide (0 ≤ b0_1 ∧ b0_1 ≤ 64) then
      let v38 := bif Nat.beq 64 (Int.toNat b0_1) then 0 else (Int.toNat b0_1)
      let v39 := 64 - (Int.toNat b0_1)
      bif (((Nat.ble (t5_0 + t5_1) b8_0 && true) && (Nat.ble (v38 + v39) 64)) && (Nat.beq t5_1 t5_1)) then
        let v41 := ((Nat.min t5_1 v39 : Nat) : Int)
        let v42 := spl b0_0 v38 (Nat.min t5_1 v39) (subI b8_1 t5_0 t5_1)
        bif decide (0 ≤ v41 ∧ v41 ≤ ((t5_1 : Nat) : Int)) then
          let v43 := t5_0 + (Int.toNat v41)
          let v44 := t5_1 - (Int.toNat v41)
          let v45 := IntKind.wrap .i64 (b0_1 + v41)
          bif (v45 == 64) then
            (f30.F K (b11, v42, v45, b0_2, b11)).bind fun y46 =>
            rec (v43, v44, y46.2.1, 0, y46.2.2.2.1, b1_0, b1_1, b1_2, b4_0, b4_1, b6_0, b6_1, b8_0, b8_1, y46.1)
          else
            rec (v43, v44, v42, v45, b0_2, b1_0, b1_1, b1_2, b4_0, b4_1, b6_0, b6_1, b8_0, b8_1, b11)
        else
          none
      else
        none
    else
      none
  else
    some (b0_0, b0_1, b0_2, b1_0, b1_1, b1_2, b4_0, b4_1, b6_0, b6_1, b8_0, b8_1, b11)
def f21v2.s2c (K : Nat) (rec : f21v2.Ty0 → Option (f21v2.Ty1)) (x : f21v2.Ty0) : Option (f21v2.Ty1) := f21v2.s2ct K rec x.1 x.2.1 x.2.2.1 x.2.2.2.1 x.2.2.2.2.1 x.2.2.2.2.2.1 x.2.2.2.2.2.2.1 x.2.2.2.2.2.2.2.1 x.2.2.2.2.2.2.2.2.1 x.2.2.2.2.2.2.2.2.2.1 x.2.2.2.2.2.2.2.2.2.2.1 x.2.2.2.2.2.2.2.2.2.2.2.1 x.2.2.2.2.2.2.2.2.2.2.2.2.1 x.2.2.2.2.2.2.2.2.2.2.2.2.2.1 x.2.2.2.2.2.2.2.2.2.2.2.2.2.2
noncomputable def f21v2.s2c.b : Code := (findLoop 2 f21v2.c).getD .skip
def f21v2.s2c.h : Hint := { lv := [0, 5, 8, 9, 10], co := [(5, 0, [])], mv := [3] }
def f21v2.s2c.ho : Hint := { lv := [0, 8, 9, 10] }
def f21v2.s2c.shp (x : f21v2.Ty0) : VS := ⟨[(0, .ptr 0 0), (5, .vw true 8 x.1 x.2.1 10), (8, .vw true 1 0 3 2), (9, .int .i64 3), (10, .int .i64 2)], [(0, ([.ptr 11 0, .ints .u8 64 x.2.2.1, .int .i64 x.2.2.2.1, .int .u64 x.2.2.2.2.1], 66, .norm)), (1, ([.vw true 4 0 x.2.2.2.2.2.1 5, .vw true 6 0 x.2.2.2.2.2.2.1 7, .vw true 8 0 x.2.2.2.2.2.2.2.1 9], 0, .ro)), (3, ([], 61, .dead)), (4, ([.ints .u8 x.2.2.2.2.2.2.2.2.1 x.2.2.2.2.2.2.2.2.2.1], 0, .ro)), (6, ([.ints .u8 x.2.2.2.2.2.2.2.2.2.2.1 x.2.2.2.2.2.2.2.2.2.2.2.1], 0, .ro)), (8, ([.ints .u8 x.2.2.2.2.2.2.2.2.2.2.2.2.1 x.2.2.2.2.2.2.2.2.2.2.2.2.2.1], 0, .ro)), (11, ([.ints .u32 8 x.2.2.2.2.2.2.2.2.2.2.2.2.2.2], 61, .norm))], 12⟩
def f21v2.s2c.inX : VS → Option (f21v2.Ty0)
  | ⟨[(0, .ptr 0 0), (5, .vw true 8 t5_0 t5_1 10), (8, .vw true 1 0 3 2), (9, .int .i64 3), (10, .int .i64 2)], [(0, ([.ptr 11 0, .ints .u8 64 b0_0, .int .i64 b0_1, .int .u64 b0_2], 66, .norm)), (1, ([.vw true 4 0 b1_0 5, .vw true 6 0 b1_1 7, .vw true 8 0 b1_2 9], 0, .ro)), (3, ([], 61, .dead)), (4, ([.ints .u8 b4_0 b4_1], 0, .ro)), (6, ([.ints .u8 b6_0 b6_1], 0, .ro)), (8, ([.ints .u8 b8_0 b8_1], 0, .ro)), (11, ([.ints .u32 8 b11], 61, .norm))], 12⟩ => some (t5_0, t5_1, b0_0, b0_1, b0_2, b1_0, b1_1, b1_2, b4_0, b4_1, b6_0, b6_1, b8_0, b8_1, b11)
  | _ => none
def f21v2.s2c.o0 (y : f21v2.Ty1) : VS := ⟨[(0, .ptr 0 0), (8, .vw true 1 0 3 2), (9, .int .i64 3), (10, .int .i64 2)], [(0, ([.ptr 10 0, .ints .u8 64 y.1, .int .i64 y.2.1, .int .u64 y.2.2.1], 66, .norm)), (1, ([.vw true 4 0 y.2.2.2.1 5, .vw true 6 0 y.2.2.2.2.1 7, .vw true 8 0 y.2.2.2.2.2.1 9], 0, .ro)), (3, ([], 61, .dead)), (4, ([.ints .u8 y.2.2.2.2.2.2.1 y.2.2.2.2.2.2.2.1], 0, .ro)), (6, ([.ints .u8 y.2.2.2.2.2.2.2.2.1 y.2.2.2.2.2.2.2.2.2.1], 0, .ro)), (8, ([.ints .u8 y.2.2.2.2.2.2.2.2.2.2.1 y.2.2.2.2.2.2.2.2.2.2.2.1], 0, .ro)), (10, ([.ints .u32 8 y.2.2.2.2.2.2.2.2.2.2.2.2], 61, .norm))], 11⟩
def f21v2.s2c.des : ∀ α : Type, (f21v2.Ty1) → (Ex → VS → Option α) → Option α := (des1 (.exit 2) f21v2.s2c.o0)
def f21v2.s2c.out : f21v2.Ty1 → Ex × VS := (fun y => (.exit 2, f21v2.s2c.o0 y))
theorem f21v2.s2c.desOK : ∀ α y (k : Ex → VS → Option α), f21v2.s2c.des α y k = k (f21v2.s2c.out y).1 (f21v2.s2c.out y).2 := (fun _ _ _ => rfl)
def f21v2.s2c.inY : Ex → VS → Option (f21v2.Ty1)
  | .exit 2, ⟨[(0, .ptr 0 0), (8, .vw true 1 0 3 2), (9, .int .i64 3), (10, .int .i64 2)], [(0, ([.ptr 10 0, .ints .u8 64 b0_0, .int .i64 b0_1, .int .u64 b0_2], 66, .norm)), (1, ([.vw true 4 0 b1_0 5, .vw true 6 0 b1_1 7, .vw true 8 0 b1_2 9], 0, .ro)), (3, ([], 61, .dead)), (4, ([.ints .u8 b4_0 b4_1], 0, .ro)), (6, ([.ints .u8 b6_0 b6_1], 0, .ro)), (8, ([.ints .u8 b8_0 b8_1], 0, .ro)), (10, ([.ints .u32 8 b10], 61, .norm))], 11⟩ => some (b0_0, b0_1, b0_2, b1_0, b1_1, b1_2, b4_0, b4_1, b6_0, b6_1, b8_0, b8_1, b10)
  | _, _ => none
def f21v2.lp (K : Nat) : Nat → Option (Hint × Summ) := tabLp [(2, f21v2.s2.h, summOr f21v2.s2.inX (summOf (iter (f21v2.s2 K) K) f21v2.s2.inX f21v2.s2.des) (summOr f21v2.s2b.inX (summOf (iter (f21v2.s2b K) K) f21v2.s2b.inX f21v2.s2b.des) (summOf (iter (f21v2.s2c K) K) f21v2.s2c.inX f21v2.s2c.des)))]
noncomputable def f21v2.tab (K : Nat) : List (Nat × Entry) := [(30, (f30.E K))]
theorem f21v2.tabOK (K : Nat) : SpecOK Tryd.prog (tabSp (f21v2.tab K)) := tab_ok ((tab_cons (f30.ok K) tab_nil))
theorem f21v2.s2.eq (K : Nat) (rec : f21v2.Ty0 → Option (f21v2.Ty1)) (x : f21v2.Ty0) : f21v2.s2 K rec x = roundL (getA tys) (tabSp (f21v2.tab K)) 76 10 (f21v2.lp K) 400 f21v2.s2.b f21v2.s2.h f21v2.s2.ho f21v2.s2.shp f21v2.s2.inX f21v2.s2.inY rec x := by kernel_rfl
theorem f21v2.s2.lok (K : Nat) : LoopsOK Tryd.prog 76 10 (f21v2.lp K) f21v2.s2.b := loops_ok (by
  have h : loopsIn (f21v2.lp K) f21v2.s2.b = [] := by kernel_rfl
  rw [h]; simp)
theorem f21v2.s2.ok (K : Nat) : SummOK Tryd.prog 76 10 (summOf (iter (f21v2.s2 K) K) f21v2.s2.inX f21v2.s2.des) f21v2.s2.b :=
  loop_ok mix tys_ok (f21v2.tabOK K) (h := f21v2.s2.h) (ho := f21v2.s2.ho) (shp := f21v2.s2.shp) (inX := f21v2.s2.inX) (des := f21v2.s2.des) (out := f21v2.s2.out) (inY := f21v2.s2.inY) (fuel := 400)
    (by intro st x h; unfold f21v2.s2.inX at h; split at h <;> simp at h; subst h; rfl)
    (by intro e st y h; unfold f21v2.s2.inY at h; split at h <;> simp at h <;> subst h <;> rfl)
    f21v2.s2.desOK (f21v2.s2.lok K) (f21v2.s2 K) (f21v2.s2.eq K) K
theorem f21v2.s2b.eq (K : Nat) (rec : f21v2.Ty0 → Option (f21v2.Ty1)) (x : f21v2.Ty0) : f21v2.s2b K rec x = roundL (getA tys) (tabSp (f21v2.tab K)) 76 10 (f21v2.lp K) 400 f21v2.s2b.b f21v2.s2b.h f21v2.s2b.ho f21v2.s2b.shp f21v2.s2b.inX f21v2.s2b.inY rec x := by kernel_rfl
theorem f21v2.s2b.lok (K : Nat) : LoopsOK Tryd.prog 76 10 (f21v2.lp K) f21v2.s2b.b := loops_ok (by
  have h : loopsIn (f21v2.lp K) f21v2.s2b.b = [] := by kernel_rfl
  rw [h]; simp)
theorem f21v2.s2b.ok (K : Nat) : SummOK Tryd.prog 76 10 (summOf (iter (f21v2.s2b K) K) f21v2.s2b.inX f21v2.s2b.des) f21v2.s2b.b :=
  loop_ok mix tys_ok (f21v2.tabOK K) (h := f21v2.s2b.h) (ho := f21v2.s2b.ho) (shp := f21v2.s2b.shp) (inX := f21v2.s2b.inX) (des := f21v2.s2b.des) (out := f21v2.s2b.out) (inY := f21v2.s2b.inY) (fuel := 400)
    (by intro st x h; unfold f21v2.s2b.inX at h; split at h <;> simp at h; subst h; rfl)
    (by intro e st y h; unfold f21v2.s2b.inY at h; split at h <;> simp at h <;> subst h <;> rfl)
    f21v2.s2b.desOK (f21v2.s2b.lok K) (f21v2.s2b K) (f21v2.s2b.eq K) K
theorem f21v2.s2c.eq (K : Nat) (rec : f21v2.Ty0 → Option (f21v2.Ty1)) (x : f21v2.Ty0) : f21v2.s2c K rec x = roundL (getA tys) (tabSp (f21v2.tab K)) 76 10 (f21v2.lp K) 400 f21v2.s2c.b f21v2.s2c.h f21v2.s2c.ho f21v2.s2c.shp f21v2.s2c.inX f21v2.s2c.inY rec x := by kernel_rfl
theorem f21v2.s2c.lok (K : Nat) : LoopsOK Tryd.prog 76 10 (f21v2.lp K) f21v2.s2c.b := loops_ok (by
  have h : loopsIn (f21v2.lp K) f21v2.s2c.b = [] := by kernel_rfl
  rw [h]; simp)
theorem f21v2.s2c.ok (K : Nat) : SummOK Tryd.prog 76 10 (summOf (iter (f21v2.s2c K) K) f21v2.s2c.inX f21v2.s2c.des) f21v2.s2c.b :=
  loop_ok mix tys_ok (f21v2.tabOK K) (h := f21v2.s2c.h) (ho := f21v2.s2c.ho) (shp := f21v2.s2c.shp) (inX := f21v2.s2c.inX) (des := f21v2.s2c.des) (out := f21v2.s2c.out) (inY := f21v2.s2c.inY) (fuel := 400)
    (by intro st x h; unfold f21v2.s2c.inX at h; split at h <;> simp at h; subst h; rfl)
    (by intro e st y h; unfold f21v2.s2c.inY at h; split at h <;> simp at h <;> subst h <;> rfl)
    f21v2.s2c.desOK (f21v2.s2c.lok K) (f21v2.s2c K) (f21v2.s2c.eq K) K
theorem f21v2.loops (K : Nat) : LoopsOK Tryd.prog 76 10 (f21v2.lp K) f21v2.c := loops_ok (by
  have h : loopsIn (f21v2.lp K) f21v2.c = [(2, f21v2.s2.b)] := by kernel_rfl
  rw [h]
  intro p hp
  simp only [List.mem_cons, List.not_mem_nil, or_false] at hp
  rcases hp with rfl
  · exact ⟨_, rfl, (summOr_ok (f21v2.s2.ok K) (summOr_ok (f21v2.s2b.ok K) (f21v2.s2c.ok K)))⟩)
def f21v2.T (K : Nat) (m0_0 : List Int) (m0_1 : Int) (m0_2 : Int) (m1_0 : Nat) (m1_1 : Nat) (m1_2 : Nat) (m3 : List Int) (m4_0 : Nat) (m4_1 : List Int) (m6_0 : Nat) (m6_1 : List Int) (m8_0 : Nat) (m8_1 : List Int) : Option (f21v2.Ty1) :=
  (iter (f21v2.s2 K) K (0, m1_0, m0_0, m0_1, (IntKind.wrap .u64 (m0_2 + (IntKind.wrap .u64 ((m1_0 : Nat) : Int)))), m1_0, m1_1, m1_2, m4_0, m4_1, m6_0, m6_1, m8_0, m8_1, m3)).bind fun y15 =>
  let v16 := y15.2.2.2.2.1
  (iter (f21v2.s2b K) K (0, v16, y15.1, y15.2.1, (IntKind.wrap .u64 (y15.2.2.1 + (IntKind.wrap .u64 ((v16 : Nat) : Int)))), y15.2.2.2.1, y15.2.2.2.2.1, y15.2.2.2.2.2.1, y15.2.2.2.2.2.2.1, y15.2.2.2.2.2.2.2.1, y15.2.2.2.2.2.2.2.2.1, y15.2.2.2.2.2.2.2.2.2.1, y15.2.2.2.2.2.2.2.2.2.2.1, y15.2.2.2.2.2.2.2.2.2.2.2.1, y15.2.2.2.2.2.2.2.2.2.2.2.2)).bind fun y31 =>
  let v32 := y31.2.2.2.2.2.1
  (iter (f21v2.s2c K) K (0, v32, y31.1, y31.2.1, (IntKind.wrap .u64 (y31.2.2.1 + (IntKind.wrap .u64 ((v32 : Nat) : Int)))), y31.2.2.2.1, y31.2.2.2.2.1, y31.2.2.2.2.2.1, y31.2.2.2.2.2.2.1, y31.2.2.2.2.2.2.2.1, y31.2.2.2.2.2.2.2.2.1, y31.2.2.2.2.2.2.2.2.2.1, y31.2.2.2.2.2.2.2.2.2.2.1, y31.2.2.2.2.2.2.2.2.2.2.2.1, y31.2.2.2.2.2.2.2.2.2.2.2.2)).bind fun y47 =>
  some (y47.1, y47.2.1, y47.2.2.1, y47.2.2.2.1, y47.2.2.2.2.1, y47.2.2.2.2.2.1, y47.2.2.2.2.2.2.1, y47.2.2.2.2.2.2.2.1, y47.2.2.2.2.2.2.2.2.1, y47.2.2.2.2.2.2.2.2.2.1, y47.2.2.2.2.2.2.2.2.2.2.1, y47.2.2.2.2.2.2.2.2.2.2.2.1, y47.2.2.2.2.2.2.2.2.2.2.2.2)
def f21v2.F (K : Nat) (x : f21v2.Ty2) : Option (f21v2.Ty1) := f21v2.T K x.1 x.2.1 x.2.2.1 x.2.2.2.1 x.2.2.2.2.1 x.2.2.2.2.2.1 x.2.2.2.2.2.2.1 x.2.2.2.2.2.2.2.1 x.2.2.2.2.2.2.2.2.1 x.2.2.2.2.2.2.2.2.2.1 x.2.2.2.2.2.2.2.2.2.2.1 x.2.2.2.2.2.2.2.2.2.2.2.1 x.2.2.2.2.2.2.2.2.2.2.2.2
def f21v2.av (_x : f21v2.Ty2) : List VV := [.ptr 0 0, .vw true 1 0 3 2]
def f21v2.bl (x : f21v2.Ty2) : List (Nat × Blk) := [(0, ([.ptr 3 0, .ints .u8 64 x.1, .int .i64 x.2.1, .int .u64 x.2.2.1], 66, .norm)), (1, ([.vw true 4 0 x.2.2.2.1 5, .vw true 6 0 x.2.2.2.2.1 7, .vw true 8 0 x.2.2.2.2.2.1 9], 0, .ro)), (3, ([.ints .u32 8 x.2.2.2.2.2.2.1], 61, .norm)), (4, ([.ints .u8 x.2.2.2.2.2.2.2.1 x.2.2.2.2.2.2.2.2.1], 0, .ro)), (6, ([.ints .u8 x.2.2.2.2.2.2.2.2.2.1 x.2.2.2.2.2.2.2.2.2.2.1], 0, .ro)), (8, ([.ints .u8 x.2.2.2.2.2.2.2.2.2.2.2.1 x.2.2.2.2.2.2.2.2.2.2.2.2], 0, .ro))]
def f21v2.inA : VS → Option (f21v2.Ty2)
  | ⟨[(0, .ptr 0 0), (1, .vw true 1 0 3 2)], [(0, ([.ptr 3 0, .ints .u8 64 m0_0, .int .i64 m0_1, .int .u64 m0_2], 66, .norm)), (1, ([.vw true 4 0 m1_0 5, .vw true 6 0 m1_1 7, .vw true 8 0 m1_2 9], 0, .ro)), (3, ([.ints .u32 8 m3], 61, .norm)), (4, ([.ints .u8 m4_0 m4_1], 0, .ro)), (6, ([.ints .u8 m6_0 m6_1], 0, .ro)), (8, ([.ints .u8 m8_0 m8_1], 0, .ro))], 10⟩ => some (m0_0, m0_1, m0_2, m1_0, m1_1, m1_2, m3, m4_0, m4_1, m6_0, m6_1, m8_0, m8_1)
  | _ => none
def f21v2.o0 (y : f21v2.Ty1) : VS := ⟨[(0, .tup [])], [(0, ([.ptr 10 0, .ints .u8 64 y.1, .int .i64 y.2.1, .int .u64 y.2.2.1], 66, .norm)), (1, ([.vw true 4 0 y.2.2.2.1 5, .vw true 6 0 y.2.2.2.2.1 7, .vw true 8 0 y.2.2.2.2.2.1 9], 0, .ro)), (3, ([], 61, .dead)), (4, ([.ints .u8 y.2.2.2.2.2.2.1 y.2.2.2.2.2.2.2.1], 0, .ro)), (6, ([.ints .u8 y.2.2.2.2.2.2.2.2.1 y.2.2.2.2.2.2.2.2.2.1], 0, .ro)), (8, ([.ints .u8 y.2.2.2.2.2.2.2.2.2.2.1 y.2.2.2.2.2.2.2.2.2.2.2.1], 0, .ro)), (10, ([.ints .u32 8 y.2.2.2.2.2.2.2.2.2.2.2.2], 61, .norm))], 11⟩
def f21v2.des : ∀ α : Type, (f21v2.Ty1) → (VS → Option α) → Option α := (dv1 f21v2.o0)
def f21v2.out : f21v2.Ty1 → VS := f21v2.o0
def f21v2.inR : VS → Option (f21v2.Ty1)
  | ⟨[(0, .tup [])], [(0, ([.ptr 10 0, .ints .u8 64 z0_0, .int .i64 z0_1, .int .u64 z0_2], 66, .norm)), (1, ([.vw true 4 0 z1_0 5, .vw true 6 0 z1_1 7, .vw true 8 0 z1_2 9], 0, .ro)), (3, ([], 61, .dead)), (4, ([.ints .u8 z4_0 z4_1], 0, .ro)), (6, ([.ints .u8 z6_0 z6_1], 0, .ro)), (8, ([.ints .u8 z8_0 z8_1], 0, .ro)), (10, ([.ints .u32 8 z10], 61, .norm))], 11⟩ => some (z0_0, z0_1, z0_2, z1_0, z1_1, z1_2, z4_0, z4_1, z6_0, z6_1, z8_0, z8_1, z10)
  | _ => none
noncomputable def f21v2.E (K : Nat) : Entry := genE 10 f21v2.inA (f21v2.F K) f21v2.des
theorem f21v2.eq (K : Nat) (x : f21v2.Ty2) : f21v2.F K x = xrun (getA tys) (tabSp (f21v2.tab K)) Tryd.f21.ntmps 10 (f21v2.lp K) 400 f21v2.c ⟨initL 0 (f21v2.av x), f21v2.bl x, 10⟩ (contF (getA tys) 10 Tryd.f21.results.toList f21v2.inR) := by kernel_rfl
theorem f21v2.ok (K : Nat) : EntryOK Tryd.prog 21 (f21v2.E K) :=
  gen_ok mix tys_ok (f21v2.tabOK K) Tryd.func21 (by kernel_rfl : Tryd.f21.body = some f21v2.c) (by kernel_rfl) (f21v2.loops K) (av := f21v2.av) (bl := f21v2.bl) (out := f21v2.out) (fuel := 400)
    (by intro s x h; unfold f21v2.inA at h; split at h <;> simp at h; subst h; rfl) (fun _ => Nat.le_of_ble_eq_true rfl)
    (by intro s y h; unfold f21v2.inR at h; split at h <;> simp at h <;> subst h <;> rfl) (fun _ _ _ => rfl) (f21v2.eq K)
end Go.Proofs

namespace Go.Proofs
open Go.VM
def Sh.init : List Int := [1779033703, 3144134277, 1013904242, 2773480762, 1359893119, 2600822924, 528734635, 1541459225]
def Sh.chain (m : List Int) : Nat → List Int
  | 0 => Sh.init
  | n + 1 => Sh.comp (Sh.chain m n) ((m.drop (64 * n)).take 64)
theorem Sh.chain_append (m q : List Int) : ∀ n, 64 * n ≤ m.length → Sh.chain (m ++ q) n = Sh.chain m n
  | 0, _ => rfl
  | n + 1, h => by
    rw [Sh.chain, Sh.chain, Sh.chain_append m q n (by omega), List.drop_append_of_le_length (by omega), List.take_append_of_le_length (by simp; omega)]
structure Sh.Rep (m : List Int) (b : List Int) (h : Int) (s : List Int) : Prop where
  len : b.length = 64
  oct : octets b
  held : h = ((m.length % 64 : Nat) : Int)
  rest : b.take (m.length % 64) = m.drop (64 * (m.length / 64))
  st : s = Sh.chain m (m.length / 64)
theorem padT_take (l : List Int) (n : Nat) (h : n ≤ l.length) : padT l n = l.take n := by
  have := subI_cut l 0 n (by omega)
  rw [List.drop_zero] at this
  rw [← this]
  simp [padT, subI]
theorem Sh.Rep.block {m b s : List Int} {h : Int} (R : Sh.Rep m b h s) (q L : List Int) (k : Nat) (hk : q.length = k) (hL : L.take k = q) (hle : k ≤ L.length) (hr : m.length % 64 + k ≤ 64) :
    spl b (m.length % 64) k L = m.drop (64 * (m.length / 64)) ++ q ++ b.drop (m.length % 64 + k) := by
  rw [spl, padT_take b _ (by have := R.len; omega), padT_take L k hle, hL, R.rest]
theorem Sh.Rep.some {m b s : List Int} {h : Int} (R : Sh.Rep m b h s) (q L : List Int) (k : Nat) (hk : q.length = k) (ho : octets L) (hL : L.take k = q) (hle : k ≤ L.length) (hr : m.length % 64 + k < 64) :
    Sh.Rep (m ++ q) (spl b (m.length % 64) k L) (h + k) s := by
  have e := R.block q L k hk hL hle (by omega)
  have l1 : (m ++ q).length / 64 = m.length / 64 := by rw [List.length_append]; omega
  have l2 : (m ++ q).length % 64 = m.length % 64 + k := by rw [List.length_append]; omega
  have d : (m.drop (64 * (m.length / 64))).length = m.length % 64 := by rw [List.length_drop]; omega
  refine ⟨?_, octets_spl R.oct ho _ _, ?_, ?_, ?_⟩
  · have dd : (b.drop (m.length % 64 + k)).length = 64 - (m.length % 64 + k) := by rw [List.length_drop, R.len]
    rw [e, List.length_append, List.length_append, dd, d, hk]; omega
  · rw [R.held, l2]; omega
  · rw [l1, l2, e, List.take_append_of_le_length (by rw [List.length_append, d]; omega), List.take_of_length_le (by rw [List.length_append, d]; omega), List.drop_append_of_le_length (by omega)]
  · rw [l1, Sh.chain_append _ _ _ (by omega)]; exact R.st
theorem Sh.Rep.full {m b s : List Int} {h : Int} (R : Sh.Rep m b h s) (q L : List Int) (k : Nat) (hk : q.length = k) (ho : octets L) (hL : L.take k = q) (hle : k ≤ L.length) (hr : m.length % 64 + k = 64) :
    Sh.Rep (m ++ q) (spl b (m.length % 64) k L) 0 (Sh.comp s (spl b (m.length % 64) k L)) := by
  have e := R.block q L k hk hL hle (by omega)
  have l1 : (m ++ q).length / 64 = m.length / 64 + 1 := by rw [List.length_append]; omega
  have l2 : (m ++ q).length % 64 = 0 := by rw [List.length_append]; omega
  have d : (m.drop (64 * (m.length / 64))).length = m.length % 64 := by rw [List.length_drop]; omega
  have eb : b.drop (m.length % 64 + k) = [] := List.drop_of_length_le (by have := R.len; omega)
  rw [eb, List.append_nil] at e
  refine ⟨?_, octets_spl R.oct ho _ _, ?_, ?_, ?_⟩
  · rw [e, List.length_append, d]; omega
  · rw [l2]; rfl
  · rw [l1, l2, List.take_zero, List.drop_of_length_le (by rw [List.length_append]; omega)]
  · rw [l1, Sh.chain, Sh.chain_append _ _ _ (by omega), ← R.st, List.drop_append_of_le_length (by omega), e, List.take_of_length_le (by rw [List.length_append, d]; omega)]
theorem sub_take (p : List Int) (off rem k : Nat) (h : off + rem = p.length) (hk : k ≤ rem) : p.take (off + k) = p.take off ++ (subI p off rem).take k := by
  rw [subI_cut p off rem (by omega), List.take_take, Nat.min_eq_left hk, List.take_add]
theorem tot_add (m n : Nat) : IntKind.wrap .u64 (((m % 18446744073709551616 : Nat) : Int) + (IntKind.wrap .u64 ((n : Nat) : Int))) = (((m + n) % 18446744073709551616 : Nat) : Int) := by
  rw [wrap_nat, show ∀ a b : Nat, ((a : Int) + (b : Int)) = ((a + b : Nat) : Int) from fun a b => rfl, wrap_nat]
  congr 1
  omega
theorem Sh.take_all {T O : Type} {stp : (T → Option O) → T → Option O} (p : List Int) (pack : Nat → Nat → List Int → Int → List Int → T) (fin : List Int → Int → List Int → O)
    (hend : ∀ rec off b h s, stp rec (pack off 0 b h s) = some (fin b h s))
    (hgo : ∀ rec off rem b r k s, off + rem = p.length → 0 < rem → r < 64 → min rem (64 - r) = k → octets (spl b r k (subI p off rem)) → stp rec (pack off rem b (r : Int) s) = if r + k = 64 then rec (pack (off + k) (rem - k) (spl b r k (subI p off rem)) 0 (Sh.comp s (spl b r k (subI p off rem)))) else rec (pack (off + k) (rem - k) (spl b r k (subI p off rem)) ((r + k : Nat) : Int) s))
    (K : Nat) (m : List Int) (ho : octets p) (b s : List Int) (h : Int) (R : Sh.Rep m b h s) (hK2 : 2 * ((m.length % 64 + p.length) / 64) + 1 < K) :
    ∃ b' h' s', iter stp K (pack 0 p.length b h s) = some (fin b' h' s') ∧ Sh.Rep (m ++ p) b' h' s' := by
  refine Exists.elim (iter_inv (stp := stp)
    (fun n x => ∃ off rem b h s, x = pack off rem b h s ∧ off + rem = p.length ∧ Sh.Rep (m ++ p.take off) b h s ∧ 2 * (((m ++ p.take off).length % 64 + rem) / 64) + (if rem = 0 then 0 else 1) = n)
    (fun y => ∃ b' h' s', y = fin b' h' s' ∧ Sh.Rep (m ++ p) b' h' s') ?_ (2 * ((m.length % 64 + p.length) / 64) + (if p.length = 0 then 0 else 1)) (pack 0 p.length b h s)
    ⟨0, p.length, b, h, s, rfl, by omega, by rw [List.take_zero, List.append_nil]; exact R, by rw [List.take_zero, List.append_nil]⟩ K (by split <;> omega)) ?_
  · intro n x hx
    obtain ⟨off, rem, b, h, s, rfl, hsum, R, hm⟩ := hx
    rcases Nat.eq_zero_or_pos rem with h0 | h0
    · subst h0
      refine Or.inl ⟨_, ⟨b, h, s, rfl, ?_⟩, fun rec => hend rec off b h s⟩
      rw [List.take_of_length_le (by omega)] at R; exact R
    · refine Or.inr ?_
      generalize hM : m ++ p.take off = M at R hm
      have hd := R.held
      have hr : M.length % 64 < 64 := Nat.mod_lt _ (by decide)
      generalize hk : min rem (64 - M.length % 64) = k
      have hk1 : k ≤ rem := by omega
      have es : M ++ (subI p off rem).take k = m ++ p.take (off + k) := by rw [sub_take p off rem k hsum hk1, ← List.append_assoc, hM]
      have hq : ((subI p off rem).take k).length = k := by rw [List.length_take, subI_length]; omega
      have hob := octets_spl R.oct (octets_sub ho off rem) (M.length % 64) k
      have go := fun rec => hgo rec off rem b (M.length % 64) k s hsum h0 hr hk hob
      rcases Nat.lt_or_ge (M.length % 64 + k) 64 with hc | hc
      · have R' := R.some _ (subI p off rem) k hq (octets_sub ho off rem) rfl (by rw [subI_length]; exact hk1) hc
        rw [es, hd, show ((M.length % 64 : Nat) : Int) + (k : Int) = ((M.length % 64 + k : Nat) : Int) from by omega] at R'
        refine ⟨_, _, ?_, ⟨off + k, rem - k, _, _, s, rfl, by omega, R', rfl⟩, fun rec => by rw [hd, go rec, if_neg (by omega)]⟩
        rw [← es, List.length_append, hq, ← hm, if_neg (show rem ≠ 0 by omega), if_pos (show rem - k = 0 by omega)]
        have : (M.length + k) % 64 + (rem - k) = M.length % 64 + rem := by omega
        rw [this]; omega
      · have hc' : M.length % 64 + k = 64 := by omega
        have R' := R.full _ (subI p off rem) k hq (octets_sub ho off rem) rfl (by rw [subI_length]; exact hk1) hc'
        rw [es] at R'
        refine ⟨_, _, ?_, ⟨off + k, rem - k, _, _, _, rfl, by omega, R', rfl⟩, fun rec => by rw [hd, go rec, if_pos hc']⟩
        rw [← es, List.length_append, hq, ← hm, if_neg (show rem ≠ 0 by omega)]
        split <;> omega
  · rintro y ⟨⟨b', h', s', rfl, hR⟩, hy⟩
    exact ⟨b', h', s', hy, hR⟩
theorem f21.s2_ok (K : Nat) (m : List Int) (mn : Int) (k0 : Nat) (k1 : Nat) (n0 : Nat) (l0 : List Int) (n1 : Nat) (l1 : List Int) (hl : l0.length = n0) (ho : octets l0) (hn : n0 ≤ 1000000000000) (hK : 64 < K) (b s : List Int) (h : Int) (R : Sh.Rep m b h s) (hK2 : 2 * ((m.length % 64 + n0) / 64) + 1 < K) :
    ∃ b' h' s', iter (f21.s2 K) K (0, n0, b, h, mn, k0, k1, n0, l0, n1, l1, s) = some (b', h', mn, k0, k1, n0, l0, n1, l1, s') ∧ Sh.Rep (m ++ l0) b' h' s' := by
  subst hl
  refine Sh.take_all l0 (fun off rem b h s => (off, rem, b, h, mn, k0, k1, l0.length, l0, n1, l1, s)) (fun b h s => (b, h, mn, k0, k1, l0.length, l0, n1, l1, s)) (fun rec off b h s => ?_) (fun rec off rem b r k s hsum h0 hr hk hob => ?_) K m ho b s h R hK2
  · simp only [f21.s2, f21.s2t]
    rw [decide_eq_false (show ¬ (((0 : Nat) : Int) > 0) by omega), cond_f]
  · have e6 : (bif Nat.beq 64 r then 0 else r) = r := by rw [show Nat.beq 64 r = false from (by rw [← Bool.not_eq_true, Nat.beq_eq]; omega), cond_f]
    have e9 : Nat.min rem (64 - r) = k := hk
    simp only [f21.s2, f21.s2t]
    rw [decide_eq_true (show (((rem : Nat) : Int) > 0) by omega), cond_t, decide_eq_true (show (0 : Int) ≤ (r : Int) ∧ (r : Int) ≤ 64 by omega), cond_t]
    simp only [Int.toNat_natCast, e6, e9]
    rw [ble_true (show off + rem ≤ l0.length by omega), ble_true (show r + (64 - r) ≤ 64 by omega), show Nat.beq rem rem = true from Nat.beq_refl rem, Bool.and_self, Bool.and_self, Bool.and_self, cond_t, decide_eq_true (show (0 : Int) ≤ (k : Int) ∧ (k : Int) ≤ (rem : Int) by omega), cond_t,
      show IntKind.wrap .i64 ((r : Int) + (k : Int)) = ((r + k : Nat) : Int) by rw [wrap_i _ (by omega) (by omega)]; omega]
    by_cases hc : r + k = 64
    · rw [if_pos hc, show (((r + k : Nat) : Int) == 64) = true from beq_iff_eq.2 (by omega), cond_t, f30.spec K s _ _ mn hob hK, bind_s]
    · rw [if_neg hc, show (((r + k : Nat) : Int) == 64) = false from beq_eq_false_iff_ne.2 (by omega), cond_f]
theorem f21.s2b_ok (K : Nat) (m : List Int) (mn : Int) (k0 : Nat) (k1 : Nat) (n0 : Nat) (l0 : List Int) (n1 : Nat) (l1 : List Int) (hl : l1.length = n1) (ho : octets l1) (hn : n1 ≤ 1000000000000) (hK : 64 < K) (b s : List Int) (h : Int) (R : Sh.Rep m b h s) (hK2 : 2 * ((m.length % 64 + n1) / 64) + 1 < K) :
    ∃ b' h' s', iter (f21.s2b K) K (0, n1, b, h, mn, k0, k1, n0, l0, n1, l1, s) = some (b', h', mn, k0, k1, n0, l0, n1, l1, s') ∧ Sh.Rep (m ++ l1) b' h' s' := by
  subst hl
  refine Sh.take_all l1 (fun off rem b h s => (off, rem, b, h, mn, k0, k1, n0, l0, l1.length, l1, s)) (fun b h s => (b, h, mn, k0, k1, n0, l0, l1.length, l1, s)) (fun rec off b h s => ?_) (fun rec off rem b r k s hsum h0 hr hk hob => ?_) K m ho b s h R hK2
  · simp only [f21.s2b, f21.s2bt]
    rw [decide_eq_false (show ¬ (((0 : Nat) : Int) > 0) by omega), cond_f]
  · have e6 : (bif Nat.beq 64 r then 0 else r) = r := by rw [show Nat.beq 64 r = false from (by rw [← Bool.not_eq_true, Nat.beq_eq]; omega), cond_f]
    have e9 : Nat.min rem (64 - r) = k := hk
    simp only [f21.s2b, f21.s2bt]
    rw [decide_eq_true (show (((rem : Nat) : Int) > 0) by omega), cond_t, decide_eq_true (show (0 : Int) ≤ (r : Int) ∧ (r : Int) ≤ 64 by omega), cond_t]
    simp only [Int.toNat_natCast, e6, e9]
    rw [ble_true (show off + rem ≤ l1.length by omega), ble_true (show r + (64 - r) ≤ 64 by omega), show Nat.beq rem rem = true from Nat.beq_refl rem, Bool.and_self, Bool.and_self, Bool.and_self, cond_t, decide_eq_true (show (0 : Int) ≤ (k : Int) ∧ (k : Int) ≤ (rem : Int) by omega), cond_t,
      show IntKind.wrap .i64 ((r : Int) + (k : Int)) = ((r + k : Nat) : Int) by rw [wrap_i _ (by omega) (by omega)]; omega]
    by_cases hc : r + k = 64
    · rw [if_pos hc, show (((r + k : Nat) : Int) == 64) = true from beq_iff_eq.2 (by omega), cond_t, f30.spec K s _ _ mn hob hK, bind_s]
    · rw [if_neg hc, show (((r + k : Nat) : Int) == 64) = false from beq_eq_false_iff_ne.2 (by omega), cond_f]
theorem f21v1.s2_ok (K : Nat) (m : List Int) (mn : Int) (k0 : Nat) (n0 : Nat) (l0 : List Int) (hl : l0.length = n0) (ho : octets l0) (hn : n0 ≤ 1000000000000) (hK : 64 < K) (b s : List Int) (h : Int) (R : Sh.Rep m b h s) (hK2 : 2 * ((m.length % 64 + n0) / 64) + 1 < K) :
    ∃ b' h' s', iter (f21v1.s2 K) K (0, n0, b, h, mn, k0, n0, l0, s) = some (b', h', mn, k0, n0, l0, s') ∧ Sh.Rep (m ++ l0) b' h' s' := by
  subst hl
  refine Sh.take_all l0 (fun off rem b h s => (off, rem, b, h, mn, k0, l0.length, l0, s)) (fun b h s => (b, h, mn, k0, l0.length, l0, s)) (fun rec off b h s => ?_) (fun rec off rem b r k s hsum h0 hr hk hob => ?_) K m ho b s h R hK2
  · simp only [f21v1.s2, f21v1.s2t]
    rw [decide_eq_false (show ¬ (((0 : Nat) : Int) > 0) by omega), cond_f]
  · have e6 : (bif Nat.beq 64 r then 0 else r) = r := by rw [show Nat.beq 64 r = false from (by rw [← Bool.not_eq_true, Nat.beq_eq]; omega), cond_f]
    have e9 : Nat.min rem (64 - r) = k := hk
    simp only [f21v1.s2, f21v1.s2t]
    rw [decide_eq_true (show (((rem : Nat) : Int) > 0) by omega), cond_t, decide_eq_true (show (0 : Int) ≤ (r : Int) ∧ (r : Int) ≤ 64 by omega), cond_t]
    simp only [Int.toNat_natCast, e6, e9]
    rw [ble_true (show off + rem ≤ l0.length by omega), ble_true (show r + (64 - r) ≤ 64 by omega), show Nat.beq rem rem = true from Nat.beq_refl rem, Bool.and_self, Bool.and_self, Bool.and_self, cond_t, decide_eq_true (show (0 : Int) ≤ (k : Int) ∧ (k : Int) ≤ (rem : Int) by omega), cond_t,
      show IntKind.wrap .i64 ((r : Int) + (k : Int)) = ((r + k : Nat) : Int) by rw [wrap_i _ (by omega) (by omega)]; omega]
    by_cases hc : r + k = 64
    · rw [if_pos hc, show (((r + k : Nat) : Int) == 64) = true from beq_iff_eq.2 (by omega), cond_t, f30.spec K s _ _ mn hob hK, bind_s]
    · rw [if_neg hc, show (((r + k : Nat) : Int) == 64) = false from beq_eq_false_iff_ne.2 (by omega), cond_f]
theorem f21v2.s2_ok (K : Nat) (m : List Int) (mn : Int) (k0 : Nat) (k1 : Nat) (k2 : Nat) (n0 : Nat) (l0 : List Int) (n1 : Nat) (l1 : List Int) (n2 : Nat) (l2 : List Int) (hl : l0.length = n0) (ho : octets l0) (hn : n0 ≤ 1000000000000) (hK : 64 < K) (b s : List Int) (h : Int) (R : Sh.Rep m b h s) (hK2 : 2 * ((m.length % 64 + n0) / 64) + 1 < K) :
    ∃ b' h' s', iter (f21v2.s2 K) K (0, n0, b, h, mn, k0, k1, k2, n0, l0, n1, l1, n2, l2, s) = some (b', h', mn, k0, k1, k2, n0, l0, n1, l1, n2, l2, s') ∧ Sh.Rep (m ++ l0) b' h' s' := by
  subst hl
  refine Sh.take_all l0 (fun off rem b h s => (off, rem, b, h, mn, k0, k1, k2, l0.length, l0, n1, l1, n2, l2, s)) (fun b h s => (b, h, mn, k0, k1, k2, l0.length, l0, n1, l1, n2, l2, s)) (fun rec off b h s => ?_) (fun rec off rem b r k s hsum h0 hr hk hob => ?_) K m ho b s h R hK2
  · simp only [f21v2.s2, f21v2.s2t]
    rw [decide_eq_false (show ¬ (((0 : Nat) : Int) > 0) by omega), cond_f]
  · have e6 : (bif Nat.beq 64 r then 0 else r) = r := by rw [show Nat.beq 64 r = false from (by rw [← Bool.not_eq_true, Nat.beq_eq]; omega), cond_f]
    have e9 : Nat.min rem (64 - r) = k := hk
    simp only [f21v2.s2, f21v2.s2t]
    rw [decide_eq_true (show (((rem : Nat) : Int) > 0) by omega), cond_t, decide_eq_true (show (0 : Int) ≤ (r : Int) ∧ (r : Int) ≤ 64 by omega), cond_t]
    simp only [Int.toNat_natCast, e6, e9]
    rw [ble_true (show off + rem ≤ l0.length by omega), ble_true (show r + (64 - r) ≤ 64 by omega), show Nat.beq rem rem = true from Nat.beq_refl rem, Bool.and_self, Bool.and_self, Bool.and_self, cond_t, decide_eq_true (show (0 : Int) ≤ (k : Int) ∧ (k : Int) ≤ (rem : Int) by omega), cond_t,
      show IntKind.wrap .i64 ((r : Int) + (k : Int)) = ((r + k : Nat) : Int) by rw [wrap_i _ (by omega) (by omega)]; omega]
    by_cases hc : r + k = 64
    · rw [if_pos hc, show (((r + k : Nat) : Int) == 64) = true from beq_iff_eq.2 (by omega), cond_t, f30.spec K s _ _ mn hob hK, bind_s]
    · rw [if_neg hc, show (((r + k : Nat) : Int) == 64) = false from beq_eq_false_iff_ne.2 (by omega), cond_f]
theorem f21v2.s2b_ok (K : Nat) (m : List Int) (mn : Int) (k0 : Nat) (k1 : Nat) (k2 : Nat) (n0 : Nat) (l0 : List Int) (n1 : Nat) (l1 : List Int) (n2 : Nat) (l2 : List Int) (hl : l1.length = n1) (ho : octets l1) (hn : n1 ≤ 1000000000000) (hK : 64 < K) (b s : List Int) (h : Int) (R : Sh.Rep m b h s) (hK2 : 2 * ((m.length % 64 + n1) / 64) + 1 < K) :
    ∃ b' h' s', iter (f21v2.s2b K) K (0, n1, b, h, mn, k0, k1, k2, n0, l0, n1, l1, n2, l2, s) = some (b', h', mn, k0, k1, k2, n0, l0, n1, l1, n2, l2, s') ∧ Sh.Rep (m ++ l1) b' h' s' := by
  subst hl
  refine Sh.take_all l1 (fun off rem b h s => (off, rem, b, h, mn, k0, k1, k2, n0, l0, l1.length, l1, n2, l2, s)) (fun b h s => (b, h, mn, k0, k1, k2, n0, l0, l1.length, l1, n2, l2, s)) (fun rec off b h s => ?_) (fun rec off rem b r k s hsum h0 hr hk hob => ?_) K m ho b s h R hK2
  · simp only [f21v2.s2b, f21v2.s2bt]
    rw [decide_eq_false (show ¬ (((0 : Nat) : Int) > 0) by omega), cond_f]
  · have e6 : (bif Nat.beq 64 r then 0 else r) = r := by rw [show Nat.beq 64 r = false from (by rw [← Bool.not_eq_true, Nat.beq_eq]; omega), cond_f]
    have e9 : Nat.min rem (64 - r) = k := hk
    simp only [f21v2.s2b, f21v2.s2bt]
    rw [decide_eq_true (show (((rem : Nat) : Int) > 0) by omega), cond_t, decide_eq_true (show (0 : Int) ≤ (r : Int) ∧ (r : Int) ≤ 64 by omega), cond_t]
    simp only [Int.toNat_natCast, e6, e9]
    rw [ble_true (show off + rem ≤ l1.length by omega), ble_true (show r + (64 - r) ≤ 64 by omega), show Nat.beq rem rem = true from Nat.beq_refl rem, Bool.and_self, Bool.and_self, Bool.and_self, cond_t, decide_eq_true (show (0 : Int) ≤ (k : Int) ∧ (k : Int) ≤ (rem : Int) by omega), cond_t,
      show IntKind.wrap .i64 ((r : Int) + (k : Int)) = ((r + k : Nat) : Int) by rw [wrap_i _ (by omega) (by omega)]; omega]
    by_cases hc : r + k = 64
    · rw [if_pos hc, show (((r + k : Nat) : Int) == 64) = true from beq_iff_eq.2 (by omega), cond_t, f30.spec K s _ _ mn hob hK, bind_s]
    · rw [if_neg hc, show (((r + k : Nat) : Int) == 64) = false from beq_eq_false_iff_ne.2 (by omega), cond_f]
theorem f21v2.s2c_ok (K : Nat) (m : List Int) (mn : Int) (k0 : Nat) (k1 : Nat) (k2 : Nat) (n0 : Nat) (l0 : List Int) (n1 : Nat) (l1 : List Int) (n2 : Nat) (l2 : List Int) (hl : l2.length = n2) (ho : octets l2) (hn : n2 ≤ 1000000000000) (hK : 64 < K) (b s : List Int) (h : Int) (R : Sh.Rep m b h s) (hK2 : 2 * ((m.length % 64 + n2) / 64) + 1 < K) :
    ∃ b' h' s', iter (f21v2.s2c K) K (0, n2, b, h, mn, k0, k1, k2, n0, l0, n1, l1, n2, l2, s) = some (b', h', mn, k0, k1, k2, n0, l0, n1, l1, n2, l2, s') ∧ Sh.Rep (m ++ l2) b' h' s' := by
  subst hl
  refine Sh.take_all l2 (fun off rem b h s => (off, rem, b, h, mn, k0, k1, k2, n0, l0, n1, l1, l2.length, l2, s)) (fun b h s => (b, h, mn, k0, k1, k2, n0, l0, n1, l1, l2.length, l2, s)) (fun rec off b h s => ?_) (fun rec off rem b r k s hsum h0 hr hk hob => ?_) K m ho b s h R hK2
  · simp only [f21v2.s2c, f21v2.s2ct]
    rw [decide_eq_false (show ¬ (((0 : Nat) : Int) > 0) by omega), cond_f]
  · have e6 : (bif Nat.beq 64 r then 0 else r) = r := by rw [show Nat.beq 64 r = false from (by rw [← Bool.not_eq_true, Nat.beq_eq]; omega), cond_f]
    have e9 : Nat.min rem (64 - r) = k := hk
    simp only [f21v2.s2c, f21v2.s2ct]
    rw [decide_eq_true (show (((rem : Nat) : Int) > 0) by omega), cond_t, decide_eq_true (show (0 : Int) ≤ (r : Int) ∧ (r : Int) ≤ 64 by omega), cond_t]
    simp only [Int.toNat_natCast, e6, e9]
    rw [ble_true (show off + rem ≤ l2.length by omega), ble_true (show r + (64 - r) ≤ 64 by omega), show Nat.beq rem rem = true from Nat.beq_refl rem, Bool.and_self, Bool.and_self, Bool.and_self, cond_t, decide_eq_true (show (0 : Int) ≤ (k : Int) ∧ (k : Int) ≤ (rem : Int) by omega), cond_t,
      show IntKind.wrap .i64 ((r : Int) + (k : Int)) = ((r + k : Nat) : Int) by rw [wrap_i _ (by omega) (by omega)]; omega]
    by_cases hc : r + k = 64
    · rw [if_pos hc, show (((r + k : Nat) : Int) == 64) = true from beq_iff_eq.2 (by omega), cond_t, f30.spec K s _ _ mn hob hK, bind_s]
    · rw [if_neg hc, show (((r + k : Nat) : Int) == 64) = false from beq_eq_false_iff_ne.2 (by omega), cond_f]
theorem f21.spec (K : Nat) (m : List Int) (n0 : Nat) (l0 : List Int) (n1 : Nat) (l1 : List Int) (e0 : l0.length = n0) (o0 : octets l0) (z0 : n0 ≤ 1000000000000) (e1 : l1.length = n1) (o1 : octets l1) (z1 : n1 ≤ 1000000000000) (b s : List Int) (h : Int) (R : Sh.Rep m b h s) (hK : 64 + n0 + n1 < K) :
    ∃ b' h' s', f21.F K (b, h, ((m.length % 18446744073709551616 : Nat) : Int), n0, n1, s, n0, l0, n1, l1) = some (b', h', (((m ++ l0 ++ l1).length % 18446744073709551616 : Nat) : Int), n0, n1, n0, l0, n1, l1, s') ∧ Sh.Rep (m ++ l0 ++ l1) b' h' s' := by
  simp only [f21.F, f21.T]
  rw [tot_add]
  obtain ⟨b0, h0, s0, i0, R0⟩ := f21.s2_ok K (m) ((((m).length + n0) % 18446744073709551616 : Nat) : Int) n0 n1 n0 l0 n1 l1 e0 o0 z0 (by omega) _ _ _ R (by omega)
  rw [i0, bind_s]
  simp only []
  rw [show (m).length + n0 = (m ++ l0).length from by simp only [List.length_append]; omega]
  rw [tot_add]
  obtain ⟨b1, h1, s1, i1, R1⟩ := f21.s2b_ok K (m ++ l0) ((((m ++ l0).length + n1) % 18446744073709551616 : Nat) : Int) n0 n1 n0 l0 n1 l1 e1 o1 z1 (by omega) _ _ _ R0 (by omega)
  rw [i1, bind_s]
  simp only []
  rw [show (m ++ l0).length + n1 = (m ++ l0 ++ l1).length from by simp only [List.length_append]; omega]
  exact ⟨b1, h1, s1, rfl, R1⟩
theorem f21v1.spec (K : Nat) (m : List Int) (n0 : Nat) (l0 : List Int) (e0 : l0.length = n0) (o0 : octets l0) (z0 : n0 ≤ 1000000000000) (b s : List Int) (h : Int) (R : Sh.Rep m b h s) (hK : 64 + n0 < K) :
    ∃ b' h' s', f21v1.F K (b, h, ((m.length % 18446744073709551616 : Nat) : Int), n0, s, n0, l0) = some (b', h', (((m ++ l0).length % 18446744073709551616 : Nat) : Int), n0, n0, l0, s') ∧ Sh.Rep (m ++ l0) b' h' s' := by
  simp only [f21v1.F, f21v1.T]
  rw [tot_add]
  obtain ⟨b0, h0, s0, i0, R0⟩ := f21v1.s2_ok K (m) ((((m).length + n0) % 18446744073709551616 : Nat) : Int) n0 n0 l0 e0 o0 z0 (by omega) _ _ _ R (by omega)
  rw [i0, bind_s]
  simp only []
  rw [show (m).length + n0 = (m ++ l0).length from by simp only [List.length_append]; omega]
  exact ⟨b0, h0, s0, rfl, R0⟩
theorem f21v2.spec (K : Nat) (m : List Int) (n0 : Nat) (l0 : List Int) (n1 : Nat) (l1 : List Int) (n2 : Nat) (l2 : List Int) (e0 : l0.length = n0) (o0 : octets l0) (z0 : n0 ≤ 1000000000000) (e1 : l1.length = n1) (o1 : octets l1) (z1 : n1 ≤ 1000000000000) (e2 : l2.length = n2) (o2 : octets l2) (z2 : n2 ≤ 1000000000000) (b s : List Int) (h : Int) (R : Sh.Rep m b h s) (hK : 64 + n0 + n1 + n2 < K) :
    ∃ b' h' s', f21v2.F K (b, h, ((m.length % 18446744073709551616 : Nat) : Int), n0, n1, n2, s, n0, l0, n1, l1, n2, l2) = some (b', h', (((m ++ l0 ++ l1 ++ l2).length % 18446744073709551616 : Nat) : Int), n0, n1, n2, n0, l0, n1, l1, n2, l2, s') ∧ Sh.Rep (m ++ l0 ++ l1 ++ l2) b' h' s' := by
  simp only [f21v2.F, f21v2.T]
  rw [tot_add]
  obtain ⟨b0, h0, s0, i0, R0⟩ := f21v2.s2_ok K (m) ((((m).length + n0) % 18446744073709551616 : Nat) : Int) n0 n1 n2 n0 l0 n1 l1 n2 l2 e0 o0 z0 (by omega) _ _ _ R (by omega)
  rw [i0, bind_s]
  simp only []
  rw [show (m).length + n0 = (m ++ l0).length from by simp only [List.length_append]; omega]
  rw [tot_add]
  obtain ⟨b1, h1, s1, i1, R1⟩ := f21v2.s2b_ok K (m ++ l0) ((((m ++ l0).length + n1) % 18446744073709551616 : Nat) : Int) n0 n1 n2 n0 l0 n1 l1 n2 l2 e1 o1 z1 (by omega) _ _ _ R0 (by omega)
  rw [i1, bind_s]
  simp only []
  rw [show (m ++ l0).length + n1 = (m ++ l0 ++ l1).length from by simp only [List.length_append]; omega]
  rw [tot_add]
  obtain ⟨b2, h2, s2, i2, R2⟩ := f21v2.s2c_ok K (m ++ l0 ++ l1) ((((m ++ l0 ++ l1).length + n2) % 18446744073709551616 : Nat) : Int) n0 n1 n2 n0 l0 n1 l1 n2 l2 e2 o2 z2 (by omega) _ _ _ R1 (by omega)
  rw [i2, bind_s]
  simp only []
  rw [show (m ++ l0 ++ l1).length + n2 = (m ++ l0 ++ l1 ++ l2).length from by simp only [List.length_append]; omega]
  exact ⟨b2, h2, s2, rfl, R2⟩
end Go.Proofs

namespace Go.Proofs
open Go.VM
abbrev f31.Ty0 := Nat × Nat × Int × Nat × List Int
abbrev f31.Ty1 := Nat × Nat × Nat × List Int
abbrev f31.Ty2 := Nat × Nat × List Int
def f31.T (_K : Nat) (a0_0 : Nat) (a0_1 : Nat) (a1 : Int) (m0_0 : Nat) (m0_1 : List Int) : Option ((f31.Ty2) ⊕ (f31.Ty1)) :=
  bif (decide (a1 < 0)) then
    none
  else
    let v5 := IntKind.wrap .i64 (a1 - (IntKind.wrap .i64 (((a0_1 : Nat) : Int) - ((a0_0 : Nat) : Int))))
    bif (decide (v5 > 0)) then
      let v7 := ((a0_1 : Nat) : Int)
      bif (decide (0 ≤ v7 ∧ v7 ≤ ((a0_1 : Nat) : Int)) && true) then
        let v8 := Int.toNat v7
        bif ((((decide (0 ≤ v5) && (fitB ((Int.toNat v5) * 1))) && (Nat.ble v8 m0_0)) && (Nat.ble a0_1 m0_0)) && (fitB ((v8 + (Int.toNat v5)) * 1))) then
          let v9 := v8 + (Int.toNat v5)
          let v10 := v8 + (Int.toNat v5)
          let v12 := ((a0_0 : Nat) : Int)
          bif (decide (0 ≤ v12 ∧ v12 ≤ ((v9 : Nat) : Int)) && (Nat.ble (0 + v9) v10)) then
            some (.inl ((Int.toNat v12), v10, ((padT m0_1 v8) ++ (padT [] (Int.toNat v5)))))
          else
            none
        else
          none
      else
        none
    else
      some (.inr (a0_0, a0_1, m0_0, m0_1))
def f31.F (K : Nat) (x : f31.Ty0) : Option ((f31.Ty2) ⊕ (f31.Ty1)) := f31.T K x.1 x.2.1 x.2.2.1 x.2.2.2.1 x.2.2.2.2
def f31.av (x : f31.Ty0) : List VV := [.sl 0 0 x.1 x.2.1, .int .i64 x.2.2.1]
def f31.bl (x : f31.Ty0) : List (Nat × Blk) := [(0, ([.ints .u8 x.2.2.2.1 x.2.2.2.2], 5, .norm))]
def f31.inA : VS → Option (f31.Ty0)
  | ⟨[(0, .sl 0 0 a0_0 a0_1), (1, .int .i64 a1)], [(0, ([.ints .u8 m0_0 m0_1], 5, .norm))], 1⟩ => some (a0_0, a0_1, a1, m0_0, m0_1)
  | _ => none
def f31.o0 (y : f31.Ty2) : VS := ⟨[(0, .vec 1 0 y.1 2)], [(0, ([], 5, .dead)), (1, ([.ints .u8 y.2.1 y.2.2], 5, .vec 2))], 3⟩
def f31.o1 (y : f31.Ty1) : VS := ⟨[(0, .sl 0 0 y.1 y.2.1)], [(0, ([.ints .u8 y.2.2.1 y.2.2.2], 5, .norm))], 1⟩
def f31.inR : VS → Option ((f31.Ty2) ⊕ (f31.Ty1))
  | ⟨[(0, .vec 1 0 y 2)], [(0, ([], 5, .dead)), (1, ([.ints .u8 z1_0 z1_1], 5, .vec 2))], 3⟩ => some (.inl (y, z1_0, z1_1))
  | ⟨[(0, .sl 0 0 y_0 y_1)], [(0, ([.ints .u8 z0_0 z0_1], 5, .norm))], 1⟩ => some (.inr (y_0, y_1, z0_0, z0_1))
  | _ => none
noncomputable def f31.E (K : Nat) : Entry := genE 1 f31.inA (f31.F K) (dvA (dv1 f31.o0) (dv1 f31.o1))
theorem f31.ok (K : Nat) : EntryOK Tryd.prog 31 (f31.E K) := gen_ok mix tys_ok (tab_ok ( tab_nil)) Tryd.func31 (c := bodyOf Tryd.f31) (by kernel_rfl) (by kernel_rfl) (loops_none (lp := lpNone) (by kernel_rfl)) (av := f31.av) (bl := f31.bl) (inR := f31.inR) (out := (alt f31.o0 f31.o1)) (fuel := 400)
  (by intro s x h; unfold f31.inA at h; split at h <;> simp at h; subst h; rfl) (fun _ => Nat.le_of_ble_eq_true rfl)
  (by intro s y h; unfold f31.inR at h; split at h <;> simp at h <;> subst h <;> rfl) (dvA_ok (fun _ _ _ => rfl) (fun _ _ _ => rfl)) (fun _ => by kernel_rfl)
end Go.Proofs

namespace Go.Proofs
open Go.VM
abbrev f32.Ty0 := Nat × Nat × List Int
def f32.T (_K : Nat) (a0 : Nat) (m0_0 : Nat) (m0_1 : List Int) : Option (f32.Ty0) :=
  let v1 := ((a0 : Nat) : Int)
  let v2 := ((a0 : Nat) : Int)
  bif (((decide (0 ≤ v2 ∧ v2 ≤ ((a0 : Nat) : Int)) && (decide (0 ≤ v1 ∧ v1 ≤ ((Int.toNat v2 : Nat) : Int)))) && true) && (Nat.ble (0 + a0) m0_0)) then
    some ((Int.toNat v1), m0_0, m0_1)
  else
    none
def f32.F (K : Nat) (x : f32.Ty0) : Option (f32.Ty0) := f32.T K x.1 x.2.1 x.2.2
def f32.av (x : f32.Ty0) : List VV := [.vec 0 0 x.1 1]
def f32.bl (x : f32.Ty0) : List (Nat × Blk) := [(0, ([.ints .u8 x.2.1 x.2.2], 5, .vec 1))]
def f32.inA : VS → Option (f32.Ty0)
  | ⟨[(0, .vec 0 0 a0 1)], [(0, ([.ints .u8 m0_0 m0_1], 5, .vec 1))], 2⟩ => some (a0, m0_0, m0_1)
  | _ => none
def f32.o0 (y : f32.Ty0) : VS := ⟨[(0, .vw false 0 0 y.1 2)], [(0, ([.ints .u8 y.2.1 y.2.2], 5, .vec 1))], 3⟩
def f32.inR : VS → Option (f32.Ty0)
  | ⟨[(0, .vw false 0 0 y 2)], [(0, ([.ints .u8 z0_0 z0_1], 5, .vec 1))], 3⟩ => some (y, z0_0, z0_1)
  | _ => none
noncomputable def f32.E (K : Nat) : Entry := genE 2 f32.inA (f32.F K) (dv1 f32.o0)
theorem f32.ok (K : Nat) : EntryOK Tryd.prog 32 (f32.E K) := gen_ok mix tys_ok (tab_ok ( tab_nil)) Tryd.func32 (c := bodyOf Tryd.f32) (by kernel_rfl) (by kernel_rfl) (loops_none (lp := lpNone) (by kernel_rfl)) (av := f32.av) (bl := f32.bl) (inR := f32.inR) (out := f32.o0) (fuel := 400)
  (by intro s x h; unfold f32.inA at h; split at h <;> simp at h; subst h; rfl) (fun _ => Nat.le_of_ble_eq_true rfl)
  (by intro s y h; unfold f32.inR at h; split at h <;> simp at h <;> subst h <;> rfl) (fun _ _ _ => rfl) (fun _ => by kernel_rfl)
end Go.Proofs

namespace Go.Proofs
open Go.VM
abbrev f22.Ty0 := Nat × Nat × List Int × Nat × List Int × Nat × List Int
abbrev f22.Ty1 := Nat × Nat × Nat × List Int × Nat × List Int
def f22.T (K : Nat) (a0 : Nat) (a1 : Nat) (m0_0 : Nat) (m0_1 : List Int) (m2_0 : Nat) (m2_1 : List Int) : Option (f22.Ty0) :=
  bif ((Nat.ble (0 + a0) m0_0 && true) && true) then
    (f25.F K (a0, 4, 1, a0, (subI m0_1 0 a0), 1, [(IntKind.wrap .u64 ((a1 : Nat) : Int))])).bind fun y3 =>
    (f31.F K (y3.1, y3.2.1, ((a1 : Nat) : Int), y3.2.2.2.2.2.2.1, y3.2.2.2.2.2.2.2)).bind fun y5 =>
    alt (fun y6 =>
      bif ((Nat.ble (0 + a1) m2_0 && (Nat.ble y6.1 y6.2.1)) && (fitB ((y6.1 + a1) * 1))) then
        (f32.F K ((y6.1 + a1), (y6.1 + a1), ((padT y6.2.2 y6.1) ++ (padT (subI m2_1 0 a1) a1)))).bind fun y9 =>
        some (y9.1, m0_0, m0_1, m2_0, m2_1, y9.2.1, y9.2.2)
      else
        none) (fun y7 =>
      bif (((Nat.ble (0 + a1) m2_0 && (Nat.ble y7.1 y7.2.2.1)) && (Nat.ble y7.2.1 y7.2.2.1)) && (fitB ((y7.1 + a1) * 1))) then
        (f32.F K ((y7.1 + a1), (y7.1 + a1), ((padT y7.2.2.2 y7.1) ++ (padT (subI m2_1 0 a1) a1)))).bind fun y11 =>
        some (y11.1, m0_0, m0_1, m2_0, m2_1, y11.2.1, y11.2.2)
      else
        none) y5
  else
    none
def f22.F (K : Nat) (x : f22.Ty1) : Option (f22.Ty0) := f22.T K x.1 x.2.1 x.2.2.1 x.2.2.2.1 x.2.2.2.2.1 x.2.2.2.2.2
def f22.av (x : f22.Ty1) : List VV := [.vw true 0 0 x.1 1, .vw true 2 0 x.2.1 3]
def f22.bl (x : f22.Ty1) : List (Nat × Blk) := [(0, ([.ints .u8 x.2.2.1 x.2.2.2.1], 0, .ro)), (2, ([.ints .u8 x.2.2.2.2.1 x.2.2.2.2.2], 0, .ro))]
def f22.inA : VS → Option (f22.Ty1)
  | ⟨[(0, .vw true 0 0 a0 1), (1, .vw true 2 0 a1 3)], [(0, ([.ints .u8 m0_0 m0_1], 0, .ro)), (2, ([.ints .u8 m2_0 m2_1], 0, .ro))], 4⟩ => some (a0, a1, m0_0, m0_1, m2_0, m2_1)
  | _ => none
def f22.o0 (y : f22.Ty0) : VS := ⟨[(0, .vw false 4 0 y.1 5)], [(0, ([.ints .u8 y.2.1 y.2.2.1], 0, .ro)), (2, ([.ints .u8 y.2.2.2.1 y.2.2.2.2.1], 0, .ro)), (4, ([.ints .u8 y.2.2.2.2.2.1 y.2.2.2.2.2.2], 5, .vec 6))], 7⟩
def f22.inR : VS → Option (f22.Ty0)
  | ⟨[(0, .vw false 4 0 y 5)], [(0, ([.ints .u8 z0_0 z0_1], 0, .ro)), (2, ([.ints .u8 z2_0 z2_1], 0, .ro)), (4, ([.ints .u8 z4_0 z4_1], 5, .vec 6))], 7⟩ => some (y, z0_0, z0_1, z2_0, z2_1, z4_0, z4_1)
  | _ => none
noncomputable def f22.E (K : Nat) : Entry := genE 4 f22.inA (f22.F K) (dv1 f22.o0)
theorem f22.ok (K : Nat) : EntryOK Tryd.prog 22 (f22.E K) := gen_ok mix tys_ok (sp := tabSp [(25, (viewE [(0, .u8), (2, .u64)] (f25.E K))), (31, (f31.E K)), (32, (f32.E K))]) (tab_ok ((tab_cons (view_ok (f25.ok K)) (tab_cons (f31.ok K) (tab_cons (f32.ok K) tab_nil))))) Tryd.func22 (c := bodyOf Tryd.f22) (by kernel_rfl) (by kernel_rfl) (loops_none (lp := lpNone) (by kernel_rfl)) (av := f22.av) (bl := f22.bl) (inR := f22.inR) (out := f22.o0) (fuel := 400)
  (by intro s x h; unfold f22.inA at h; split at h <;> simp at h; subst h; rfl) (fun _ => Nat.le_of_ble_eq_true rfl)
  (by intro s y h; unfold f22.inR at h; split at h <;> simp at h <;> subst h <;> rfl) (fun _ _ _ => rfl) (fun _ => by kernel_rfl)
end Go.Proofs

namespace Go.Proofs
open Go.VM
abbrev f24.Ty0 := List Int × List Int × Int × Int
abbrev f24.Ty1 := List Int × Int × Int × List Int
def f24.T (K : Nat) (m0_0 : List Int) (m0_1 : Int) (m0_2 : Int) (m1 : List Int) : Option (f24.Ty0) :=
  let v2 := Int.tmod (IntKind.wrap .i64 (119 - m0_1)) 64
  bif lenOK v2 v2 1 then
    let v3 := Int.toNat v2
    (f23.F K (0, (IntKind.wrap .u64 (8 * m0_2)), 8, 0, [])).bind fun y7 =>
    bif ((Nat.ble (0 + v3) (Int.toNat v2) && (Nat.ble v3 (Int.toNat v2))) && ((Nat.ble (0 + y7.1) y7.2.2.2.2.1 && (Nat.ble y7.1 y7.2.1)) && true)) then
      (f21v2.F K (m0_0, m0_1, m0_2, 1, v3, y7.1, m1, 1, [128], v3, (subI [] 0 v3), y7.1, (subI y7.2.2.2.2.2 0 y7.1))).bind fun y8 =>
      (f23.F K (0, (IntKind.wrap .u64 (List.getD y8.2.2.2.2.2.2.2.2.2.2.2.2 0 0)), 4, 0, [])).bind fun y11 =>
      bif ((Nat.ble (0 + y11.1) y11.2.2.2.2.1 && (Nat.ble y11.1 y11.2.1)) && true) then
        (f23.F K (y11.1, (IntKind.wrap .u64 (List.getD y8.2.2.2.2.2.2.2.2.2.2.2.2 1 0)), 4, y11.1, (subI y11.2.2.2.2.2 0 y11.1))).bind fun y14 =>
        bif ((Nat.ble (0 + y14.1) y14.2.2.2.2.1 && (Nat.ble y14.1 y14.2.1)) && true) then
          (f23.F K (y14.1, (IntKind.wrap .u64 (List.getD y8.2.2.2.2.2.2.2.2.2.2.2.2 2 0)), 4, y14.1, (subI y14.2.2.2.2.2 0 y14.1))).bind fun y17 =>
          bif ((Nat.ble (0 + y17.1) y17.2.2.2.2.1 && (Nat.ble y17.1 y17.2.1)) && true) then
            (f23.F K (y17.1, (IntKind.wrap .u64 (List.getD y8.2.2.2.2.2.2.2.2.2.2.2.2 3 0)), 4, y17.1, (subI y17.2.2.2.2.2 0 y17.1))).bind fun y20 =>
            bif ((Nat.ble (0 + y20.1) y20.2.2.2.2.1 && (Nat.ble y20.1 y20.2.1)) && true) then
              (f23.F K (y20.1, (IntKind.wrap .u64 (List.getD y8.2.2.2.2.2.2.2.2.2.2.2.2 4 0)), 4, y20.1, (subI y20.2.2.2.2.2 0 y20.1))).bind fun y23 =>
              bif ((Nat.ble (0 + y23.1) y23.2.2.2.2.1 && (Nat.ble y23.1 y23.2.1)) && true) then
                (f23.F K (y23.1, (IntKind.wrap .u64 (List.getD y8.2.2.2.2.2.2.2.2.2.2.2.2 5 0)), 4, y23.1, (subI y23.2.2.2.2.2 0 y23.1))).bind fun y26 =>
                bif ((Nat.ble (0 + y26.1) y26.2.2.2.2.1 && (Nat.ble y26.1 y26.2.1)) && true) then
                  (f23.F K (y26.1, (IntKind.wrap .u64 (List.getD y8.2.2.2.2.2.2.2.2.2.2.2.2 6 0)), 4, y26.1, (subI y26.2.2.2.2.2 0 y26.1))).bind fun y29 =>
                  bif ((Nat.ble (0 + y29.1) y29.2.2.2.2.1 && (Nat.ble y29.1 y29.2.1)) && true) then
                    (f23.F K (y29.1, (IntKind.wrap .u64 (List.getD y8.2.2.2.2.2.2.2.2.2.2.2.2 7 0)), 4, y29.1, (subI y29.2.2.2.2.2 0 y29.1))).bind fun y32 =>
                    bif ((Nat.ble (0 + y32.1) y32.2.2.2.2.1 && true) && (Nat.beq y32.1 y32.1)) then
                      some ((spl [0, 0, 0, 0, 0, 0, 0, 0, 0, 0, 0, 0, 0, 0, 0, 0, 0, 0, 0, 0, 0, 0, 0, 0, 0, 0, 0, 0, 0, 0, 0, 0] 0 (Nat.min y32.1 32) (subI y32.2.2.2.2.2 0 y32.1)), m0_0, m0_1, m0_2)
                    else
                      none
                  else
                    none
                else
                  none
              else
                none
            else
              none
          else
            none
        else
          none
      else
        none
    else
      none
  else
    none
def f24.F (K : Nat) (x : f24.Ty1) : Option (f24.Ty0) := f24.T K x.1 x.2.1 x.2.2.1 x.2.2.2
def f24.av (_x : f24.Ty1) : List VV := [.ptr 0 0]
def f24.bl (x : f24.Ty1) : List (Nat × Blk) := [(0, ([.ptr 1 0, .ints .u8 64 x.1, .int .i64 x.2.1, .int .u64 x.2.2.1], 66, .norm)), (1, ([.ints .u32 8 x.2.2.2], 61, .norm))]
def f24.inA : VS → Option (f24.Ty1)
  | ⟨[(0, .ptr 0 0)], [(0, ([.ptr 1 0, .ints .u8 64 m0_0, .int .i64 m0_1, .int .u64 m0_2], 66, .norm)), (1, ([.ints .u32 8 m1], 61, .norm))], 2⟩ => some (m0_0, m0_1, m0_2, m1)
  | _ => none
def f24.o0 (y : f24.Ty0) : VS := ⟨[(0, .agg [.ints .u8 32 y.1])], [(0, ([.ptr 1 0, .ints .u8 64 y.2.1, .int .i64 y.2.2.1, .int .u64 y.2.2.2], 66, .norm)), (1, ([], 61, .dead))], 2⟩
def f24.inR : VS → Option (f24.Ty0)
  | ⟨[(0, .agg [.ints .u8 32 y])], [(0, ([.ptr 1 0, .ints .u8 64 z0_0, .int .i64 z0_1, .int .u64 z0_2], 66, .norm)), (1, ([], 61, .dead))], 2⟩ => some (y, z0_0, z0_1, z0_2)
  | _ => none
noncomputable def f24.E (K : Nat) : Entry := genE 2 f24.inA (f24.F K) (dv1 f24.o0)
theorem f24.ok (K : Nat) : EntryOK Tryd.prog 24 (f24.E K) := gen_ok mix tys_ok (sp := tabSp [(23, (viewE [(0, .u8)] (f23.E K))), (21, (rowsE 1 .u8 (f21v2.E K)))]) (tab_ok ((tab_cons (view_ok (f23.ok K)) (tab_cons (rows_ok (f21v2.ok K)) tab_nil)))) Tryd.func24 (c := bodyOf Tryd.f24) (by kernel_rfl) (by kernel_rfl) (loops_none (lp := lpNone) (by kernel_rfl)) (av := f24.av) (bl := f24.bl) (inR := f24.inR) (out := f24.o0) (fuel := 400)
  (by intro s x h; unfold f24.inA at h; split at h <;> simp at h; subst h; rfl) (fun _ => Nat.le_of_ble_eq_true rfl)
  (by intro s y h; unfold f24.inR at h; split at h <;> simp at h <;> subst h <;> rfl) (fun _ _ _ => rfl) (fun _ => by kernel_rfl)
end Go.Proofs

namespace Go.Proofs
open Go.VM
def Sh.frame (p : List Int) : List Int := be 4 p.length ++ p
theorem strL_length (s : ByteArray) : (strL s).length = s.size := by simp [strL]
theorem strL_octets (s : ByteArray) : octets (strL s) := by
  intro x hx
  simp only [strL, List.mem_map] at hx
  obtain ⟨b, _, rfl⟩ := hx
  have := b.toNat_lt
  omega
theorem frame_octets {p : List Int} (h : octets p) : octets (Sh.frame p) := octets_append (be_octets _ _) h
theorem frame_length (p : List Int) : (Sh.frame p).length = 4 + p.length := by rw [Sh.frame, List.length_append, be_length]
theorem f32.spec (K n : Nat) (l : List Int) : f32.F K (n, n, l) = some (n, n, l) := by
  simp only [f32.F, f32.T, Int.toNat_natCast]
  rw [decide_eq_true (show (0 : Int) ≤ (n : Int) ∧ (n : Int) ≤ (n : Int) by omega), Bool.and_self, Bool.and_self, Nat.zero_add, ble_true (Nat.le_refl n), Bool.and_self, cond_t]
theorem f31.spec (K a n : Nat) (l : List Int) (hl : l.length = a) (hs : a + n ≤ 100000000000000) : f31.F K (a, a, (n : Int), a, l) = some (if n = 0 then .inr (a, a, a, l) else .inl (a, a + n, l ++ padT [] n)) := by
  have e : IntKind.wrap .i64 ((n : Int) - (IntKind.wrap .i64 (((a : Nat) : Int) - ((a : Nat) : Int)))) = (n : Int) := by
    rw [show ((a : Nat) : Int) - ((a : Nat) : Int) = 0 by omega, wrap_i 0 (by omega) (by omega), wrap_i _ (by omega) (by omega)]; omega
  simp only [f31.F, f31.T, e, Int.toNat_natCast]
  rw [decide_eq_false (show ¬ (n : Int) < 0 by omega), cond_f]
  rcases Nat.eq_zero_or_pos n with h | h
  · subst h
    rw [decide_eq_false (show ¬ (((0 : Nat) : Int) > 0) by omega), cond_f, if_pos rfl]
  · rw [decide_eq_true (show ((n : Int) > 0) by omega), cond_t, decide_eq_true (show (0 : Int) ≤ (a : Int) ∧ (a : Int) ≤ (a : Int) by omega), Bool.and_self, cond_t, decide_eq_true (show (0 : Int) ≤ (n : Int) by omega), fitB_true (by omega), ble_true (Nat.le_refl a), fitB_true (by omega), Bool.and_self, Bool.and_self, Bool.and_self, Bool.and_self, cond_t,
      decide_eq_true (show (0 : Int) ≤ (a : Int) ∧ (a : Int) ≤ ((a + n : Nat) : Int) by omega), Nat.zero_add, ble_true (Nat.le_refl _), Bool.and_self, cond_t, if_neg (by omega), padT_self l hl]
theorem f22.spec (K a n : Nat) (l p : List Int) (hl : l.length = a) (hp : p.length = n) (hn : n ≤ 1000000000000) (ha : a ≤ 1000000000) :
    f22.F K (a, n, a, l, n, p) = some (a + 4 + n, a, l, n, p, a + 4 + n, l ++ Sh.frame p) := by
  have h0 : IntKind.wrap .u64 ((n : Nat) : Int) = (n : Int) := wrap_u _ (by omega) (by omega)
  have e2 := f25.spec K a 4 1 l [n] hl rfl (by intro x hx; simp only [List.mem_singleton] at hx; omega) (by omega) (by omega) (by omega)
  simp only [List.map_cons, List.map_nil, List.flatMap_cons, List.flatMap_nil, List.append_nil, Nat.mul_one] at e2
  have hl4 : (l ++ be 4 n).length = a + 4 := by rw [List.length_append, be_length, hl]
  simp only [f22.F, f22.T]
  rw [Nat.zero_add, ble_true (Nat.le_refl a), Bool.and_self, Bool.and_self, cond_t, subI_self l hl, h0, show ((4 : Int)) = ((4 : Nat) : Int) from rfl, e2, bind_s]
  simp only []
  rw [f31.spec K (a + 4) n _ hl4 (by omega), bind_s]
  rcases Nat.eq_zero_or_pos n with h | h
  · rw [if_pos h, altr]
    simp only []
    rw [Nat.zero_add, ble_true (Nat.le_refl n), ble_true (Nat.le_refl (a + 4)), fitB_true (by omega), Bool.and_self, Bool.and_self, Bool.and_self, cond_t, f32.spec, bind_s, padT_self _ hl4, subI_self p hp, padT_self p hp, Sh.frame, hp, List.append_assoc]
  · rw [if_neg (by omega), altl]
    simp only []
    have e : padT (l ++ be 4 n ++ padT [] n) (a + 4) = l ++ be 4 n := by
      rw [padT_take _ _ (by rw [List.length_append, hl4]; omega), List.take_append_of_le_length (by omega), List.take_of_length_le (by omega)]
    rw [Nat.zero_add, ble_true (Nat.le_refl n), ble_true (show a + 4 ≤ a + 4 + n by omega), fitB_true (by omega), Bool.and_self, Bool.and_self, cond_t, f32.spec, bind_s, e, subI_self p hp, padT_self p hp, Sh.frame, hp, List.append_assoc]
def Sh.padded (m : List Int) : List Int := m ++ [128] ++ List.replicate ((119 - m.length % 64) % 64) 0 ++ be 8 (8 * m.length)
def Sh.digest (s : List Int) : List Int := (List.range 8).flatMap fun i => be 4 (IntKind.wrap .u64 (s.getD i 0)).toNat
def Sh.sum (m : List Int) : List Int := Sh.digest (Sh.chain (Sh.padded m) ((Sh.padded m).length / 64))
theorem digest_length (s : List Int) : (Sh.digest s).length = 32 := by
  simp [Sh.digest, List.range, List.range.loop, be_length]
theorem wrap_pos (z : Int) : IntKind.wrap .u64 z = ((IntKind.wrap .u64 z).toNat : Int) ∧ (IntKind.wrap .u64 z).toNat < 18446744073709551616 := by
  simp only [IntKind.wrap, IntKind.signed, IntKind.bits]
  simp
  omega
theorem sub_zero (l : List Int) (n : Nat) (h : l = []) : subI l 0 n = List.replicate n 0 := by
  subst h
  refine List.ext_getElem? fun i => ?_
  by_cases hi : i < n
  · simp [subI, hi]
  · rw [List.getElem?_eq_none (by simpa [subI] using hi), List.getElem?_eq_none (by simpa using hi)]
theorem f24.spec (K : Nat) (m b s : List Int) (h : Int) (R : Sh.Rep m b h s) (hK : 200 < K) :
    f24.F K (b, h, ((m.length % 18446744073709551616 : Nat) : Int), s) = some (Sh.sum m, b, h, ((m.length % 18446744073709551616 : Nat) : Int)) := by
  have hr : m.length % 64 < 64 := Nat.mod_lt _ (by decide)
  have e2 : Int.tmod (IntKind.wrap .i64 (119 - ((m.length % 64 : Nat) : Int))) 64 = (((119 - m.length % 64) % 64 : Nat) : Int) := by
    rw [wrap_i _ (by omega) (by omega), show (119 : Int) - ((m.length % 64 : Nat) : Int) = ((119 - m.length % 64 : Nat) : Int) by omega]
    exact tmod_nat _ 64
  have e8 : IntKind.wrap .u64 (8 * ((m.length % 18446744073709551616 : Nat) : Int)) = ((8 * m.length % 18446744073709551616 : Nat) : Int) := by
    rw [show (8 : Int) * ((m.length % 18446744073709551616 : Nat) : Int) = ((8 * (m.length % 18446744073709551616) : Nat) : Int) by omega, wrap_nat]
    congr 1
    omega
  simp only [f24.F, f24.T]
  rw [R.held, e2]
  generalize hp : (119 - m.length % 64) % 64 = p
  have hp64 : p < 64 := by omega
  have el : lenOK (p : Int) (p : Int) 1 = true := by
    simp only [lenOK, Int.toNat_natCast]
    rw [decide_eq_true (show (0 : Int) ≤ (p : Int) ∧ (p : Int) ≤ (p : Int) by omega), fitB_true (by omega), fitB_true (by omega)]; rfl
  have e1 := f23.spec K 0 8 (8 * m.length % 18446744073709551616) [] rfl (Nat.mod_lt _ (by decide)) (by omega) (by omega)
  rw [List.nil_append, show (18446744073709551616 : Nat) = 256 ^ 8 from rfl, be_mod, ← show (18446744073709551616 : Nat) = 256 ^ 8 from rfl, Nat.zero_add] at e1
  rw [el, cond_t, e8]
  simp only [Int.toNat_natCast]
  rw [show ((8 : Int)) = ((8 : Nat) : Int) from rfl, e1, bind_s]
  simp only []
  rw [Nat.zero_add, ble_true (Nat.le_refl p), ble_true (Nat.le_refl 8), Bool.and_self, Bool.and_self, Bool.and_self, cond_t, sub_zero [] p rfl, subI_self (be 8 (8 * m.length)) (be_length _ _)]
  obtain ⟨b', h', s', e3, R'⟩ := f21v2.spec K m 1 [128] p (List.replicate p 0) 8 (be 8 (8 * m.length)) rfl (by intro x hx; simp only [List.mem_singleton] at hx; omega) (by omega) (by simp) (octets_zeros _) (by omega) (be_length _ _) (be_octets _ _) (by omega) b s _ R (by omega)
  rw [R.held] at e3
  have hz : (m ++ [128] ++ List.replicate p 0 ++ be 8 (8 * m.length)) = Sh.padded m := by rw [Sh.padded, hp]
  rw [hz] at e3 R'
  rw [e3, bind_s]
  simp only []
  have hsum : Sh.digest s' = Sh.sum m := by rw [Sh.sum, ← R'.st]
  obtain ⟨x0, g0, t0⟩ : ∃ x : Nat, IntKind.wrap .u64 (List.getD s' 0 0) = (x : Int) ∧ x < 18446744073709551616 := ⟨_, wrap_pos _⟩
  obtain ⟨x1, g1, t1⟩ : ∃ x : Nat, IntKind.wrap .u64 (List.getD s' 1 0) = (x : Int) ∧ x < 18446744073709551616 := ⟨_, wrap_pos _⟩
  obtain ⟨x2, g2, t2⟩ : ∃ x : Nat, IntKind.wrap .u64 (List.getD s' 2 0) = (x : Int) ∧ x < 18446744073709551616 := ⟨_, wrap_pos _⟩
  obtain ⟨x3, g3, t3⟩ : ∃ x : Nat, IntKind.wrap .u64 (List.getD s' 3 0) = (x : Int) ∧ x < 18446744073709551616 := ⟨_, wrap_pos _⟩
  obtain ⟨x4, g4, t4⟩ : ∃ x : Nat, IntKind.wrap .u64 (List.getD s' 4 0) = (x : Int) ∧ x < 18446744073709551616 := ⟨_, wrap_pos _⟩
  obtain ⟨x5, g5, t5⟩ : ∃ x : Nat, IntKind.wrap .u64 (List.getD s' 5 0) = (x : Int) ∧ x < 18446744073709551616 := ⟨_, wrap_pos _⟩
  obtain ⟨x6, g6, t6⟩ : ∃ x : Nat, IntKind.wrap .u64 (List.getD s' 6 0) = (x : Int) ∧ x < 18446744073709551616 := ⟨_, wrap_pos _⟩
  obtain ⟨x7, g7, t7⟩ : ∃ x : Nat, IntKind.wrap .u64 (List.getD s' 7 0) = (x : Int) ∧ x < 18446744073709551616 := ⟨_, wrap_pos _⟩
  have hd : Sh.digest s' = []  ++ be 4 x0 ++ be 4 x1 ++ be 4 x2 ++ be 4 x3 ++ be 4 x4 ++ be 4 x5 ++ be 4 x6 ++ be 4 x7 := by
    simp only [Sh.digest, List.range, List.range.loop, List.flatMap_cons, List.flatMap_nil, List.append_nil, List.nil_append, g0, g1, g2, g3, g4, g5, g6, g7, Int.toNat_natCast, List.append_assoc]
  rw [hsum] at hd
  have p0 : f23.F K (0, (x0 : Int), ((4 : Nat) : Int), 0, []) = some (4, 4, 0, [], 4, [] ++ be 4 x0) := f23.spec K 0 4 x0 ([]) (by simp [be_length]) t0 (by omega) (by omega)
  rw [g0, show ((4 : Int)) = ((4 : Nat) : Int) from rfl, p0, bind_s]
  simp only []
  rw [Nat.zero_add, ble_true (Nat.le_refl 4), Bool.and_self, Bool.and_self, cond_t]
  have p1 : f23.F K (4, (x1 : Int), ((4 : Nat) : Int), 4, [] ++ be 4 x0) = some (8, 8, 4, [] ++ be 4 x0, 8, [] ++ be 4 x0 ++ be 4 x1) := f23.spec K 4 4 x1 ([] ++ be 4 x0) (by simp [be_length]) t1 (by omega) (by omega)
  rw [g1, subI_self ([] ++ be 4 x0) (show _ = 4 by simp [be_length]), p1, bind_s]
  simp only []
  rw [Nat.zero_add, ble_true (Nat.le_refl 8), Bool.and_self, Bool.and_self, cond_t]
  have p2 : f23.F K (8, (x2 : Int), ((4 : Nat) : Int), 8, [] ++ be 4 x0 ++ be 4 x1) = some (12, 12, 8, [] ++ be 4 x0 ++ be 4 x1, 12, [] ++ be 4 x0 ++ be 4 x1 ++ be 4 x2) := f23.spec K 8 4 x2 ([] ++ be 4 x0 ++ be 4 x1) (by simp [be_length]) t2 (by omega) (by omega)
  rw [g2, subI_self ([] ++ be 4 x0 ++ be 4 x1) (show _ = 8 by simp [be_length]), p2, bind_s]
  simp only []
  rw [Nat.zero_add, ble_true (Nat.le_refl 12), Bool.and_self, Bool.and_self, cond_t]
  have p3 : f23.F K (12, (x3 : Int), ((4 : Nat) : Int), 12, [] ++ be 4 x0 ++ be 4 x1 ++ be 4 x2) = some (16, 16, 12, [] ++ be 4 x0 ++ be 4 x1 ++ be 4 x2, 16, [] ++ be 4 x0 ++ be 4 x1 ++ be 4 x2 ++ be 4 x3) := f23.spec K 12 4 x3 ([] ++ be 4 x0 ++ be 4 x1 ++ be 4 x2) (by simp [be_length]) t3 (by omega) (by omega)
  rw [g3, subI_self ([] ++ be 4 x0 ++ be 4 x1 ++ be 4 x2) (show _ = 12 by simp [be_length]), p3, bind_s]
  simp only []
  rw [Nat.zero_add, ble_true (Nat.le_refl 16), Bool.and_self, Bool.and_self, cond_t]
  have p4 : f23.F K (16, (x4 : Int), ((4 : Nat) : Int), 16, [] ++ be 4 x0 ++ be 4 x1 ++ be 4 x2 ++ be 4 x3) = some (20, 20, 16, [] ++ be 4 x0 ++ be 4 x1 ++ be 4 x2 ++ be 4 x3, 20, [] ++ be 4 x0 ++ be 4 x1 ++ be 4 x2 ++ be 4 x3 ++ be 4 x4) := f23.spec K 16 4 x4 ([] ++ be 4 x0 ++ be 4 x1 ++ be 4 x2 ++ be 4 x3) (by simp [be_length]) t4 (by omega) (by omega)
  rw [g4, subI_self ([] ++ be 4 x0 ++ be 4 x1 ++ be 4 x2 ++ be 4 x3) (show _ = 16 by simp [be_length]), p4, bind_s]
  simp only []
  rw [Nat.zero_add, ble_true (Nat.le_refl 20), Bool.and_self, Bool.and_self, cond_t]
  have p5 : f23.F K (20, (x5 : Int), ((4 : Nat) : Int), 20, [] ++ be 4 x0 ++ be 4 x1 ++ be 4 x2 ++ be 4 x3 ++ be 4 x4) = some (24, 24, 20, [] ++ be 4 x0 ++ be 4 x1 ++ be 4 x2 ++ be 4 x3 ++ be 4 x4, 24, [] ++ be 4 x0 ++ be 4 x1 ++ be 4 x2 ++ be 4 x3 ++ be 4 x4 ++ be 4 x5) := f23.spec K 20 4 x5 ([] ++ be 4 x0 ++ be 4 x1 ++ be 4 x2 ++ be 4 x3 ++ be 4 x4) (by simp [be_length]) t5 (by omega) (by omega)
  rw [g5, subI_self ([] ++ be 4 x0 ++ be 4 x1 ++ be 4 x2 ++ be 4 x3 ++ be 4 x4) (show _ = 20 by simp [be_length]), p5, bind_s]
  simp only []
  rw [Nat.zero_add, ble_true (Nat.le_refl 24), Bool.and_self, Bool.and_self, cond_t]
  have p6 : f23.F K (24, (x6 : Int), ((4 : Nat) : Int), 24, [] ++ be 4 x0 ++ be 4 x1 ++ be 4 x2 ++ be 4 x3 ++ be 4 x4 ++ be 4 x5) = some (28, 28, 24, [] ++ be 4 x0 ++ be 4 x1 ++ be 4 x2 ++ be 4 x3 ++ be 4 x4 ++ be 4 x5, 28, [] ++ be 4 x0 ++ be 4 x1 ++ be 4 x2 ++ be 4 x3 ++ be 4 x4 ++ be 4 x5 ++ be 4 x6) := f23.spec K 24 4 x6 ([] ++ be 4 x0 ++ be 4 x1 ++ be 4 x2 ++ be 4 x3 ++ be 4 x4 ++ be 4 x5) (by simp [be_length]) t6 (by omega) (by omega)
  rw [g6, subI_self ([] ++ be 4 x0 ++ be 4 x1 ++ be 4 x2 ++ be 4 x3 ++ be 4 x4 ++ be 4 x5) (show _ = 24 by simp [be_length]), p6, bind_s]
  simp only []
  rw [Nat.zero_add, ble_true (Nat.le_refl 28), Bool.and_self, Bool.and_self, cond_t]
  have p7 : f23.F K (28, (x7 : Int), ((4 : Nat) : Int), 28, [] ++ be 4 x0 ++ be 4 x1 ++ be 4 x2 ++ be 4 x3 ++ be 4 x4 ++ be 4 x5 ++ be 4 x6) = some (32, 32, 28, [] ++ be 4 x0 ++ be 4 x1 ++ be 4 x2 ++ be 4 x3 ++ be 4 x4 ++ be 4 x5 ++ be 4 x6, 32, [] ++ be 4 x0 ++ be 4 x1 ++ be 4 x2 ++ be 4 x3 ++ be 4 x4 ++ be 4 x5 ++ be 4 x6 ++ be 4 x7) := f23.spec K 28 4 x7 ([] ++ be 4 x0 ++ be 4 x1 ++ be 4 x2 ++ be 4 x3 ++ be 4 x4 ++ be 4 x5 ++ be 4 x6) (by simp [be_length]) t7 (by omega) (by omega)
  rw [g7, subI_self ([] ++ be 4 x0 ++ be 4 x1 ++ be 4 x2 ++ be 4 x3 ++ be 4 x4 ++ be 4 x5 ++ be 4 x6) (show _ = 28 by simp [be_length]), p7, bind_s]
  simp only []
  rw [Nat.zero_add, ble_true (Nat.le_refl 32)]
  rw [Bool.and_self, show Nat.beq 32 32 = true from rfl, Bool.and_self, cond_t, subI_self ([] ++ be 4 x0 ++ be 4 x1 ++ be 4 x2 ++ be 4 x3 ++ be 4 x4 ++ be 4 x5 ++ be 4 x6 ++ be 4 x7) (show _ = 32 by simp [be_length]), ← hd, spl, show Nat.min 32 32 = 32 from rfl, padT_self (Sh.sum m) (digest_length _)]
  rfl
end Go.Proofs

namespace Go.Proofs
open Go.VM
end Go.Proofs

namespace Go.Proofs
open Go.VM
end Go.Proofs

namespace Go.Proofs
open Go.VM
theorem digit (A T : Nat) (hT : 0 < T) : (T ≤ A % (T * 2) → A % T = A % (T * 2) - T ∧ A / T = A / (T * 2) * 2 + 1) ∧ (¬ T ≤ A % (T * 2) → A % T = A % (T * 2) ∧ A / T = A / (T * 2) * 2) := by
  have h1 : A % (T * 2) = A % T + T * (A / T % 2) := Nat.mod_mul
  have h2 : A / (T * 2) = A / T / 2 := (Nat.div_div_eq_div_mul _ _ _).symm
  have h3 := Nat.mod_lt A hT
  rw [h1, h2]
  rcases Nat.mod_two_eq_zero_or_one (A / T) with h | h
  · rw [h, Nat.mul_zero, Nat.add_zero]
    exact ⟨fun h => by omega, fun _ => ⟨rfl, by omega⟩⟩
  · rw [h, Nat.mul_one]
    exact ⟨fun _ => ⟨by omega, by omega⟩, fun h => by omega⟩
end Go.Proofs

namespace Go.Proofs
open Go.VM
end Go.Proofs

namespace Go.Proofs
open Go.VM
end Go.Proofs

namespace Go.Proofs
open Go.VM
end Go.Proofs

namespace Go.Proofs
open Go.VM
end Go.Proofs

namespace Go.Proofs
open Go.VM
end Go.Proofs

namespace Go.Proofs
open Go.VM
def Sh.cut (name : List Int) (ps : List (List Int)) : List Int := Sh.frame name ++ be 4 ps.length ++ ps.flatMap Sh.frame
def Sh.sha (name : List Int) (ps : List (List Int)) : List Int := Sh.sum (Sh.cut name ps)
theorem Sh.rep0 : Sh.Rep [] [0, 0, 0, 0, 0, 0, 0, 0, 0, 0, 0, 0, 0, 0, 0, 0, 0, 0, 0, 0, 0, 0, 0, 0, 0, 0, 0, 0, 0, 0, 0, 0, 0, 0, 0, 0, 0, 0, 0, 0, 0, 0, 0, 0, 0, 0, 0, 0, 0, 0, 0, 0, 0, 0, 0, 0, 0, 0, 0, 0, 0, 0, 0, 0] 0 Sh.init :=
  ⟨rfl, by intro x hx; simp only [List.mem_cons, List.not_mem_nil, or_false, or_self] at hx; omega, rfl, rfl, rfl⟩
end Go.Proofs

namespace Go.Proofs
open Go.VM
abbrev bv (x : Int) : BitVec 32 := BitVec.ofInt 32 x
theorem wrap_32n (n : Nat) (h : n < 4294967296) : IntKind.wrap .u32 (n : Int) = (n : Int) := by
  simp [IntKind.wrap, IntKind.signed, IntKind.bits]; omega
theorem bits_and (x y : Int) : bits .and .u32 x y = (((bv x &&& bv y).toNat : Nat) : Int) := wrap_32n _ (bv x &&& bv y).isLt
theorem bits_or (x y : Int) : bits .or .u32 x y = (((bv x ||| bv y).toNat : Nat) : Int) := wrap_32n _ (bv x ||| bv y).isLt
theorem bits_xor (x y : Int) : bits .xor .u32 x y = (((bv x ^^^ bv y).toNat : Nat) : Int) := wrap_32n _ (bv x ^^^ bv y).isLt
theorem bv_nat (v : BitVec 32) : bv ((v.toNat : Nat) : Int) = v := by rw [bv, BitVec.ofInt_natCast, BitVec.ofNat_toNat]; simp
theorem or_comm32 (x y : Int) : bits .or .u32 x y = bits .or .u32 y x := by rw [bits_or, bits_or, BitVec.or_comm]
theorem ch_same (e f g : Int) : bits .xor .u32 (bits .and .u32 e f) (bits .and .u32 (bits .xor .u32 4294967295 e) g) = bits .or .u32 (bits .and .u32 e f) (bits .and .u32 (bits .xor .u32 4294967295 e) g) := by
  have hn : bv 4294967295 = BitVec.allOnes 32 := by decide
  simp only [bits_xor, bits_or, bits_and, bv_nat, hn]
  congr 2
  ext i hi
  simp only [BitVec.getElem_xor, BitVec.getElem_or, BitVec.getElem_and, BitVec.getElem_allOnes]
  cases (bv e)[i] <;> cases (bv f)[i] <;> cases (bv g)[i] <;> rfl
theorem maj_same (a b c : Int) : bits .or .u32 (bits .or .u32 (bits .and .u32 a b) (bits .and .u32 a c)) (bits .and .u32 b c) = bits .xor .u32 (bits .and .u32 a (bits .xor .u32 b c)) (bits .and .u32 b c) := by
  simp only [bits_xor, bits_or, bits_and, bv_nat]
  congr 2
  ext i hi
  simp only [BitVec.getElem_xor, BitVec.getElem_or, BitVec.getElem_and]
  cases (bv a)[i] <;> cases (bv b)[i] <;> cases (bv c)[i] <;> rfl
theorem xor_zero_left (x y : Int) : bits .xor .u32 (bits .xor .u32 0 x) y = bits .xor .u32 x y := by
  have h0 : bv 0 = 0#32 := by decide
  simp only [bits_xor, bv_nat, h0, BitVec.zero_xor]
def Rf.round (x : Int) (n : Nat) : Int := bits .or .u32 (shiftI .shr .u32 x (n : Int)) (shiftI .shl .u32 x ((32 - n : Nat) : Int))
theorem Rf.round_rot (x : Int) (n : Nat) : Rf.round x n = Sh.rot x ((32 - n : Nat) : Int) (n : Int) := or_comm32 _ _
theorem Rf.two (x : Int) (m n : Nat) (z : Int) : bits .xor .u32 (Sh.downs x [m, n]) z = bits .xor .u32 (bits .xor .u32 (Rf.round x m) (Rf.round x n)) z := by
  simp only [Sh.downs, List.foldl_cons, List.foldl_nil, xor_zero_left, Rf.round_rot]
theorem Rf.three (x : Int) (m n o : Nat) : Sh.downs x [m, n, o] = bits .xor .u32 (bits .xor .u32 (Rf.round x m) (Rf.round x n)) (Rf.round x o) := by
  simp only [Sh.downs, List.foldl_cons, List.foldl_nil, xor_zero_left, Rf.round_rot]
def Rf.s0 (x : Int) : Int := bits .xor .u32 (bits .xor .u32 (Rf.round x 7) (Rf.round x 18)) (Int.fdiv x (2 ^ 3))
def Rf.s1 (x : Int) : Int := bits .xor .u32 (bits .xor .u32 (Rf.round x 17) (Rf.round x 19)) (Int.fdiv x (2 ^ 10))
def Rf.w (b : List Int) : Nat → Int
  | t => if t < 16 then IntKind.wrap .u32 ((tv (subI b (4 * t) 4) : Nat) : Int)
    else if h : 16 ≤ t then IntKind.wrap .u32 ((IntKind.wrap .u32 ((IntKind.wrap .u32 (Rf.w b (t - 16) + Rf.w b (t - 7))) + Rf.s0 (Rf.w b (t - 15)))) + Rf.s1 (Rf.w b (t - 2)))
    else 0
termination_by t => t
theorem wrap32_mod (z : Int) : IntKind.wrap .u32 z = z % 4294967296 := by simp [IntKind.wrap, IntKind.signed, IntKind.bits]
theorem sums32 (a b c d : Int) : IntKind.wrap .u32 ((IntKind.wrap .u32 ((IntKind.wrap .u32 (a + c)) + d)) + b) = IntKind.wrap .u32 ((IntKind.wrap .u32 ((IntKind.wrap .u32 (a + b)) + c)) + d) := by
  simp only [wrap32_mod]; omega
theorem setD_at (l : List Int) (p : Nat) (x : Int) (i : Nat) (hp : p < l.length) : (setD l p x).getD i 0 = if i = p then x else l.getD i 0 := by
  induction l generalizing p i with
  | nil => simp at hp
  | cons a l ih =>
    cases p with
    | zero => cases i <;> simp [setD]
    | succ p =>
      cases i with
      | zero => simp [setD]
      | succ i =>
        have := ih p i (by simpa using hp)
        simp only [setD, List.getD_cons_succ, this]
        by_cases h : i = p
        · rw [if_pos h, if_pos (by omega)]
        · rw [if_neg h, if_neg (by omega)]
theorem Rf.w_low (b : List Int) (t : Nat) (h : t < 16) : Rf.w b t = IntKind.wrap .u32 ((tv (subI b (4 * t) 4) : Nat) : Int) := by
  rw [Rf.w, if_pos h]
theorem Rf.w_high (b : List Int) (t : Nat) (h : 16 ≤ t) : Rf.w b t = IntKind.wrap .u32 ((IntKind.wrap .u32 ((IntKind.wrap .u32 (Rf.w b (t - 16) + Rf.w b (t - 7))) + Rf.s0 (Rf.w b (t - 15)))) + Rf.s1 (Rf.w b (t - 2))) := by
  rw [Rf.w, if_neg (by omega), dif_pos h]
theorem sched_at (w b : List Int) (t : Nat) (hl : w.length = 16) (hw : ∀ k, k < 16 → k < t → List.getD w k 0 = Rf.w b (k + (t - 1 - k) / 16 * 16)) :
    (Sh.sched w b t).length = 16 ∧ List.getD (Sh.sched w b t) (t % 16) 0 = Rf.w b t ∧ ∀ k, k ≠ t % 16 → List.getD (Sh.sched w b t) k 0 = List.getD w k 0 := by
  have hk0 : t % 16 < 16 := Nat.mod_lt _ (by decide)
  unfold Sh.sched
  by_cases h : t < 16
  · rw [if_pos h]
    refine ⟨by rw [length_setD (by omega)]; exact hl, ?_, fun k hk => ?_⟩
    · rw [setD_at _ _ _ _ (by omega), if_pos rfl, Rf.w_low b t h]
    · rw [setD_at _ _ _ _ (by omega), if_neg hk]
  · rw [if_neg h]
    dsimp only
    have x1 := hw ((t + 1) % 16) (Nat.mod_lt _ (by decide)) (by omega)
    have x14 := hw ((t + 14) % 16) (Nat.mod_lt _ (by decide)) (by omega)
    have x9 := hw ((t + 9) % 16) (Nat.mod_lt _ (by decide)) (by omega)
    have x0 := hw (t % 16) hk0 (by omega)
    rw [show (t + 1) % 16 + (t - 1 - (t + 1) % 16) / 16 * 16 = t - 15 by omega] at x1
    rw [show (t + 14) % 16 + (t - 1 - (t + 14) % 16) / 16 * 16 = t - 2 by omega] at x14
    rw [show (t + 9) % 16 + (t - 1 - (t + 9) % 16) / 16 * 16 = t - 7 by omega] at x9
    rw [show t % 16 + (t - 1 - t % 16) / 16 * 16 = t - 16 by omega] at x0
    have ne9 : (t + 9) % 16 ≠ t % 16 := by omega
    rw [x1, x14, x0]
    have L1 : ∀ v, (setD w (t % 16) v).length = 16 := fun v => by rw [length_setD (by omega)]; exact hl
    have L2 : ∀ v u, (setD (setD w (t % 16) v) (t % 16) u).length = 16 := fun v u => by rw [length_setD (by rw [L1]; omega)]; exact L1 v
    refine ⟨by rw [length_setD (by rw [L2]; omega)]; exact L2 _ _, ?_, fun k hk => ?_⟩
    · rw [setD_at _ _ _ _ (by rw [L2]; omega), if_pos rfl, setD_at _ _ _ (t % 16) (by rw [L1]; omega), if_pos rfl, setD_at _ _ _ ((t + 9) % 16) (by rw [L1]; omega), if_neg ne9, setD_at _ _ _ (t % 16) (by omega), if_pos rfl, setD_at _ _ _ ((t + 9) % 16) (by omega), if_neg ne9, x9, Rf.w_high b t (by omega),
        Rf.two, Rf.two, sums32]
      rfl
    · rw [setD_at _ _ _ _ (by rw [L2]; omega), if_neg hk, setD_at _ _ _ _ (by rw [L1]; omega), if_neg hk, setD_at _ _ _ _ (by omega), if_neg hk]
theorem window (s b : List Int) : ∀ t, (Sh.rounds s b t).2.length = 16 ∧ ∀ k, k < 16 → k < t → List.getD (Sh.rounds s b t).2 k 0 = Rf.w b (k + (t - 1 - k) / 16 * 16)
  | 0 => ⟨rfl, fun k _ hk => absurd hk (Nat.not_lt_zero k)⟩
  | t + 1 => by
    obtain ⟨hl, hw⟩ := window s b t
    obtain ⟨g1, g2, g3⟩ := sched_at _ b t hl hw
    refine ⟨g1, fun k hk hkt => ?_⟩
    show List.getD (Sh.sched (Sh.rounds s b t).2 b t) k 0 = _
    by_cases hkk : k = t % 16
    · subst hkk
      rw [g2, show t % 16 + (t + 1 - 1 - t % 16) / 16 * 16 = t by omega]
    · rw [g3 k hkk, hw k hk (by omega), show (t - 1 - k) / 16 = (t + 1 - 1 - k) / 16 by omega]
def Rf.step (b : List Int) (t : Nat) (l : List Int) : List Int :=
  let a := List.getD l 0 0
  let e := List.getD l 4 0
  let t1 := IntKind.wrap .u32 ((IntKind.wrap .u32 ((IntKind.wrap .u32 ((IntKind.wrap .u32 ((List.getD l 7 0) + (bits .xor .u32 (bits .xor .u32 (Rf.round e 6) (Rf.round e 11)) (Rf.round e 25)))) + (bits .xor .u32 (bits .and .u32 e (List.getD l 5 0)) (bits .and .u32 (bits .xor .u32 4294967295 e) (List.getD l 6 0))))) + (List.getD Sh.consts t 0))) + Rf.w b t)
  [IntKind.wrap .u32 (t1 + (IntKind.wrap .u32 ((bits .xor .u32 (bits .xor .u32 (Rf.round a 2) (Rf.round a 13)) (Rf.round a 22)) + (bits .or .u32 (bits .or .u32 (bits .and .u32 a (List.getD l 1 0)) (bits .and .u32 a (List.getD l 2 0))) (bits .and .u32 (List.getD l 1 0) (List.getD l 2 0)))))), a, List.getD l 1 0, List.getD l 2 0, IntKind.wrap .u32 (List.getD l 3 0 + t1), e, List.getD l 5 0, List.getD l 6 0]
def Rf.rounds (s b : List Int) : Nat → List Int
  | 0 => s
  | t + 1 => Rf.step b t (Rf.rounds s b t)
theorem step_same (b w v : List Int) (t : Nat) (hv : v.length = 8) (hw : List.getD (Sh.sched w b t) (t % 16) 0 = Rf.w b t) : (Sh.step b t (v, w)).1 = Rf.step b t v := by
  obtain ⟨v0, v1, v2, v3, v4, v5, v6, v7, rfl⟩ : ∃ v0 v1 v2 v3 v4 v5 v6 v7, v = [v0, v1, v2, v3, v4, v5, v6, v7] := by
    match v, hv with
    | [v0, v1, v2, v3, v4, v5, v6, v7], _ => exact ⟨v0, v1, v2, v3, v4, v5, v6, v7, rfl⟩
  unfold Sh.step Rf.step
  dsimp only
  rw [hw, Rf.three, Rf.three]
  have g0 : List.getD [v0, v1, v2, v3, v4, v5, v6, v7] 0 0 = v0 := rfl
  have g1 : List.getD [v0, v1, v2, v3, v4, v5, v6, v7] 1 0 = v1 := rfl
  have g2 : List.getD [v0, v1, v2, v3, v4, v5, v6, v7] 2 0 = v2 := rfl
  have g3 : List.getD [v0, v1, v2, v3, v4, v5, v6, v7] 3 0 = v3 := rfl
  have g4 : List.getD [v0, v1, v2, v3, v4, v5, v6, v7] 4 0 = v4 := rfl
  have g5 : List.getD [v0, v1, v2, v3, v4, v5, v6, v7] 5 0 = v5 := rfl
  have g6 : List.getD [v0, v1, v2, v3, v4, v5, v6, v7] 6 0 = v6 := rfl
  have g7 : List.getD [v0, v1, v2, v3, v4, v5, v6, v7] 7 0 = v7 := rfl
  have e : spl [v0, v1, v2, v3, v4, v5, v6, v7] 1 7 (subI [v0, v1, v2, v3, v4, v5, v6, v7] 0 7) = [v0, v0, v1, v2, v3, v4, v5, v6] := rfl
  rw [e, g0, g1, g2, g3, g4, g5, g6, g7, ← ch_same, ← maj_same]
  rfl
theorem step_len (b : List Int) (t : Nat) (l : List Int) : (Rf.step b t l).length = 8 := rfl
theorem rounds_same (s b : List Int) (hs : s.length = 8) : ∀ t, (Sh.rounds s b t).1 = Rf.rounds s b t ∧ (Rf.rounds s b t).length = 8
  | 0 => ⟨rfl, hs⟩
  | t + 1 => by
    obtain ⟨h1, h2⟩ := rounds_same s b hs t
    obtain ⟨hl, hw⟩ := window s b t
    obtain ⟨_, g2, _⟩ := sched_at _ b t hl hw
    refine ⟨?_, step_len _ _ _⟩
    show (Sh.step b t (Sh.rounds s b t)).1 = Rf.step b t (Rf.rounds s b t)
    rw [← h1]
    exact step_same b (Sh.rounds s b t).2 (Sh.rounds s b t).1 t (by rw [h1]; exact h2) g2
theorem comp_same (s b : List Int) (hs : s.length = 8) : Sh.comp s b = Sh.added s (Rf.rounds s b 64) 8 := by
  rw [Sh.comp, (rounds_same s b hs 64).1]
end Go.Proofs

namespace Go.Proofs
open Go.VM
def f34.T (_K : Nat)  : Option (List Int) :=
  some ([1116352408, 1899447441, 3049323471, 3921009573, 961987163, 1508970993, 2453635748, 2870763221, 3624381080, 310598401, 607225278, 1426881987, 1925078388, 2162078206, 2614888103, 3248222580, 3835390401, 4022224774, 264347078, 604807628, 770255983, 1249150122, 1555081692, 1996064986, 2554220882, 2821834349, 2952996808, 3210313671, 3336571891, 3584528711, 113926993, 338241895, 666307205, 773529912, 1294757372, 1396182291, 1695183700, 1986661051, 2177026350, 2456956037, 2730485921, 2820302411, 3259730800, 3345764771, 3516065817, 3600352804, 4094571909, 275423344, 430227734, 506948616, 659060556, 883997877, 958139571, 1322822218, 1537002063, 1747873779, 1955562222, 2024104815, 2227730452, 2361852424, 2428436474, 2756734187, 3204031479, 3329325298])
def f34.F (K : Nat) (_x : Unit) : Option (List Int) := f34.T K
def f34.av (_x : Unit) : List VV := []
def f34.bl (_x : Unit) : List (Nat × Blk) := []
def f34.inA : VS → Option (Unit)
  | ⟨[], [], 0⟩ => some ()
  | _ => none
def f34.o0 (y : List Int) : VS := ⟨[(0, .sl 0 0 64 64)], [(0, ([.ints .u32 64 y], 59, .norm))], 1⟩
def f34.inR : VS → Option (List Int)
  | ⟨[(0, .sl 0 0 64 64)], [(0, ([.ints .u32 64 z0], 59, .norm))], 1⟩ => some z0
  | _ => none
noncomputable def f34.E (K : Nat) : Entry := genE 0 f34.inA (f34.F K) (dv1 f34.o0)
theorem f34.ok (K : Nat) : EntryOK Tryd.prog 34 (f34.E K) := gen_ok mix tys_ok (tab_ok ( tab_nil)) Tryd.func34 (c := bodyOf Tryd.f34) (by kernel_rfl) (by kernel_rfl) (loops_none (lp := lpNone) (by kernel_rfl)) (av := f34.av) (bl := f34.bl) (inR := f34.inR) (out := f34.o0) (fuel := 400)
  (by intro s x h; unfold f34.inA at h; split at h <;> simp at h; rfl) (fun _ => Nat.le_of_ble_eq_true rfl)
  (by intro s y h; unfold f34.inR at h; split at h <;> simp at h <;> subst h <;> rfl) (fun _ _ _ => rfl) (fun _ => by kernel_rfl)
end Go.Proofs

namespace Go.Proofs
open Go.VM
def f42.T (_K : Nat) (a0 : Int) (a1 : Int) : Option (Int) :=
  bif decide (0 ≤ a1) then
    let v2 := IntKind.wrap .u64 (32 - a1)
    bif decide (0 ≤ v2) then
      some (bits .or .u32 (shiftI .shr .u32 a0 a1) (shiftI .shl .u32 a0 v2))
    else
      none
  else
    none
def f42.F (K : Nat) (x : Int × Int) : Option (Int) := f42.T K x.1 x.2
def f42.av (x : Int × Int) : List VV := [.int .u32 x.1, .int .u64 x.2]
def f42.bl (_x : Int × Int) : List (Nat × Blk) := []
def f42.inA : VS → Option (Int × Int)
  | ⟨[(0, .int .u32 a0), (1, .int .u64 a1)], [], 0⟩ => some (a0, a1)
  | _ => none
def f42.o0 (y : Int) : VS := ⟨[(0, .int .u32 y)], [], 0⟩
def f42.inR : VS → Option (Int)
  | ⟨[(0, .int .u32 y)], [], 0⟩ => some y
  | _ => none
noncomputable def f42.E (K : Nat) : Entry := genE 0 f42.inA (f42.F K) (dv1 f42.o0)
theorem f42.ok (K : Nat) : EntryOK Tryd.prog 42 (f42.E K) := gen_ok mix tys_ok (tab_ok ( tab_nil)) Tryd.func42 (c := bodyOf Tryd.f42) (by kernel_rfl) (by kernel_rfl) (loops_none (lp := lpNone) (by kernel_rfl)) (av := f42.av) (bl := f42.bl) (inR := f42.inR) (out := f42.o0) (fuel := 400)
  (by intro s x h; unfold f42.inA at h; split at h <;> simp at h; subst h; rfl) (fun _ => Nat.le_of_ble_eq_true rfl)
  (by intro s y h; unfold f42.inR at h; split at h <;> simp at h <;> subst h <;> rfl) (fun _ _ _ => rfl) (fun _ => by kernel_rfl)
end Go.Proofs

namespace Go.Proofs
open Go.VM
abbrev f35.Ty0 := Nat × Int × Nat × List Int × Nat × List Int × List Int × List Int × List Int × List Int
abbrev f35.Ty1 := Nat × Nat × Int × Nat × List Int × Nat × List Int × List Int × List Int × List Int
abbrev f35.Ty2 := Nat × Int × Nat × List Int × Nat × List Int × List Int × List Int × List Int
abbrev f35.Ty3 := Nat × Nat × List Int × Nat × List Int × List Int × List Int × List Int
abbrev f35.Ty4 := Int × Nat × List Int × Nat × List Int × List Int × List Int × List Int
abbrev f35.Ty5 := Nat × List Int × Nat × List Int × List Int × List Int × List Int
abbrev f35.Ty6 := List Int × Nat × Nat × Nat × List Int × Nat × List Int
abbrev f35.Ty7 := Nat × List Int × Nat × List Int × List Int × List Int
abbrev f35.Ty8 := List Int × Nat × List Int × Nat × List Int
noncomputable def f35.c : Code := bodyOf Tryd.f35
def f35.s0t (_K : Nat) (rec : f35.Ty1 → Option (f35.Ty3)) (t1 : Nat) (t2 : Nat) (t8 : Int) (b0_0 : Nat) (b0_1 : List Int) (b2_0 : Nat) (b2_1 : List Int) (b4 : List Int) (b5 : List Int) (b6 : List Int) : Option (f35.Ty3) :=
  bif (decide (t8 < 16)) then
    let v2 := IntKind.wrap .i64 (4 * t8)
    bif decide (0 ≤ v2 ∧ v2 < ((t1 : Nat) : Int)) then
      let v3 := 0 + (Int.toNat v2)
      bif Nat.blt v3 b0_0 then
        let v8 := IntKind.wrap .i64 ((IntKind.wrap .i64 (4 * t8)) + 1)
        bif decide (0 ≤ v8 ∧ v8 < ((t1 : Nat) : Int)) then
          let v9 := 0 + (Int.toNat v8)
          bif Nat.blt v9 b0_0 then
            let v15 := IntKind.wrap .i64 ((IntKind.wrap .i64 (4 * t8)) + 2)
            bif decide (0 ≤ v15 ∧ v15 < ((t1 : Nat) : Int)) then
              let v16 := 0 + (Int.toNat v15)
              bif Nat.blt v16 b0_0 then
                let v22 := IntKind.wrap .i64 ((IntKind.wrap .i64 (4 * t8)) + 3)
                bif decide (0 ≤ v22 ∧ v22 < ((t1 : Nat) : Int)) then
                  let v23 := 0 + (Int.toNat v22)
                  bif Nat.blt v23 b0_0 then
                    bif decide (0 ≤ t8 ∧ t8 < 64) then
                      rec (t1, t2, (IntKind.wrap .i64 (t8 + 1)), b0_0, b0_1, b2_0, b2_1, b4, b5, (setD b6 (Int.toNat t8) (bits .or .u32 (bits .or .u32 (bits .or .u32 (IntKind.wrap .u32 ((IntKind.wrap .u32 (List.getD b0_1 v3 0)) * 2 ^ 24)) (IntKind.wrap .u32 ((IntKind.wrap .u32 (List.getD b0_1 v9 0)) * 2 ^ 16))) (IntKind.wrap .u32 ((IntKind.wrap .u32 (List.getD b0_1 v16 0)) * 2 ^ 8))) (IntKind.wrap .u32 (List.getD b0_1 v23 0)))))
                    else
                      none
                  else
                    none
                else
                  none
              else
                none
            else
              none
          else
            none
        else
          none
      else
        none
    else
      none
  else
    some (t2, b0_0, b0_1, b2_0, b2_1, b4, b5, b6)
def f35.s0 (K : Nat) (rec : f35.Ty1 → Option (f35.Ty3)) (x : f35.Ty1) : Option (f35.Ty3) := f35.s0t K rec x.1 x.2.1 x.2.2.1 x.2.2.2.1 x.2.2.2.2.1 x.2.2.2.2.2.1 x.2.2.2.2.2.2.1 x.2.2.2.2.2.2.2.1 x.2.2.2.2.2.2.2.2.1 x.2.2.2.2.2.2.2.2.2
noncomputable def f35.s0.b : Code := (findLoop 0 f35.c).getD .skip
def f35.s0.h : Hint := { lv := [1, 2, 3, 6, 7, 8] }
def f35.s0.ho : Hint := { lv := [2, 3, 6, 7] }
def f35.s0.shp (x : f35.Ty1) : VS := ⟨[(1, .vw true 0 0 x.1 1), (2, .vw true 2 0 x.2.1 3), (3, .ptr 4 0), (6, .ptr 5 0), (7, .ptr 6 0), (8, .int .i64 x.2.2.1)], [(0, ([.ints .u8 x.2.2.2.1 x.2.2.2.2.1], 0, .ro)), (2, ([.ints .u32 x.2.2.2.2.2.1 x.2.2.2.2.2.2.1], 0, .ro)), (4, ([.ints .u32 8 x.2.2.2.2.2.2.2.1], 60, .norm)), (5, ([.ints .u32 8 x.2.2.2.2.2.2.2.2.1], 60, .norm)), (6, ([.ints .u32 64 x.2.2.2.2.2.2.2.2.2], 80, .norm))], 7⟩
def f35.s0.inX : VS → Option (f35.Ty1)
  | ⟨[(1, .vw true 0 0 t1 1), (2, .vw true 2 0 t2 3), (3, .ptr 4 0), (6, .ptr 5 0), (7, .ptr 6 0), (8, .int .i64 t8)], [(0, ([.ints .u8 b0_0 b0_1], 0, .ro)), (2, ([.ints .u32 b2_0 b2_1], 0, .ro)), (4, ([.ints .u32 8 b4], 60, .norm)), (5, ([.ints .u32 8 b5], 60, .norm)), (6, ([.ints .u32 64 b6], 80, .norm))], 7⟩ => some (t1, t2, t8, b0_0, b0_1, b2_0, b2_1, b4, b5, b6)
  | _ => none
def f35.s0.o0 (y : f35.Ty3) : VS := ⟨[(2, .vw true 2 0 y.1 3), (3, .ptr 4 0), (6, .ptr 5 0), (7, .ptr 6 0)], [(0, ([.ints .u8 y.2.1 y.2.2.1], 0, .ro)), (2, ([.ints .u32 y.2.2.2.1 y.2.2.2.2.1], 0, .ro)), (4, ([.ints .u32 8 y.2.2.2.2.2.1], 60, .norm)), (5, ([.ints .u32 8 y.2.2.2.2.2.2.1], 60, .norm)), (6, ([.ints .u32 64 y.2.2.2.2.2.2.2], 80, .norm))], 7⟩
def f35.s0.des : ∀ α : Type, (f35.Ty3) → (Ex → VS → Option α) → Option α := (des1 (.exit 0) f35.s0.o0)
def f35.s0.out : f35.Ty3 → Ex × VS := (fun y => (.exit 0, f35.s0.o0 y))
theorem f35.s0.desOK : ∀ α y (k : Ex → VS → Option α), f35.s0.des α y k = k (f35.s0.out y).1 (f35.s0.out y).2 := (fun _ _ _ => rfl)
def f35.s0.inY : Ex → VS → Option (f35.Ty3)
  | .exit 0, ⟨[(2, .vw true 2 0 t2 3), (3, .ptr 4 0), (6, .ptr 5 0), (7, .ptr 6 0)], [(0, ([.ints .u8 b0_0 b0_1], 0, .ro)), (2, ([.ints .u32 b2_0 b2_1], 0, .ro)), (4, ([.ints .u32 8 b4], 60, .norm)), (5, ([.ints .u32 8 b5], 60, .norm)), (6, ([.ints .u32 64 b6], 80, .norm))], 7⟩ => some (t2, b0_0, b0_1, b2_0, b2_1, b4, b5, b6)
  | _, _ => none
def f35.s2t (K : Nat) (rec : f35.Ty2 → Option (f35.Ty3)) (t2 : Nat) (t9 : Int) (b0_0 : Nat) (b0_1 : List Int) (b2_0 : Nat) (b2_1 : List Int) (b4 : List Int) (b5 : List Int) (b6 : List Int) : Option (f35.Ty3) :=
  bif (decide (t9 < 64)) then
    let v32 := IntKind.wrap .i64 (t9 - 15)
    bif decide (0 ≤ v32 ∧ v32 < 64) then
      let v34 := List.getD b6 (Int.toNat v32) 0
      let v35 := IntKind.wrap .i64 (t9 - 2)
      bif decide (0 ≤ v35 ∧ v35 < 64) then
        let v37 := List.getD b6 (Int.toNat v35) 0
        let v38 := IntKind.wrap .i64 (t9 - 16)
        bif decide (0 ≤ v38 ∧ v38 < 64) then
          let v41 := IntKind.wrap .i64 (t9 - 7)
          bif decide (0 ≤ v41 ∧ v41 < 64) then
            (f42.F K (v34, 7)).bind fun y45 =>
            (f42.F K (v34, 18)).bind fun y46 =>
            (f42.F K (v37, 17)).bind fun y51 =>
            (f42.F K (v37, 19)).bind fun y52 =>
            bif decide (0 ≤ t9 ∧ t9 < 64) then
              rec (t2, (IntKind.wrap .i64 (t9 + 1)), b0_0, b0_1, b2_0, b2_1, b4, b5, (setD b6 (Int.toNat t9) (IntKind.wrap .u32 ((IntKind.wrap .u32 ((IntKind.wrap .u32 ((List.getD b6 (Int.toNat v38) 0) + (List.getD b6 (Int.toNat v41) 0))) + (bits .xor .u32 (bits .xor .u32 y45 y46) (Int.fdiv v34 (2 ^ 3))))) + (bits .xor .u32 (bits .xor .u32 y51 y52) (Int.fdiv v37 (2 ^ 10)))))))
            else
              none
          else
            none
        else
          none
      else
        none
    else
      none
  else
    some (t2, b0_0, b0_1, b2_0, b2_1, b4, b5, b6)
def f35.s2 (K : Nat) (rec : f35.Ty2 → Option (f35.Ty3)) (x : f35.Ty2) : Option (f35.Ty3) := f35.s2t K rec x.1 x.2.1 x.2.2.1 x.2.2.2.1 x.2.2.2.2.1 x.2.2.2.2.2.1 x.2.2.2.2.2.2.1 x.2.2.2.2.2.2.2.1 x.2.2.2.2.2.2.2.2
noncomputable def f35.s2.b : Code := (findLoop 2 f35.c).getD .skip
def f35.s2.h : Hint := { lv := [2, 3, 6, 7, 9] }
def f35.s2.ho : Hint := { lv := [2, 3, 6, 7] }
def f35.s2.shp (x : f35.Ty2) : VS := ⟨[(2, .vw true 2 0 x.1 3), (3, .ptr 4 0), (6, .ptr 5 0), (7, .ptr 6 0), (9, .int .i64 x.2.1)], [(0, ([.ints .u8 x.2.2.1 x.2.2.2.1], 0, .ro)), (2, ([.ints .u32 x.2.2.2.2.1 x.2.2.2.2.2.1], 0, .ro)), (4, ([.ints .u32 8 x.2.2.2.2.2.2.1], 60, .norm)), (5, ([.ints .u32 8 x.2.2.2.2.2.2.2.1], 60, .norm)), (6, ([.ints .u32 64 x.2.2.2.2.2.2.2.2], 80, .norm))], 7⟩
def f35.s2.inX : VS → Option (f35.Ty2)
  | ⟨[(2, .vw true 2 0 t2 3), (3, .ptr 4 0), (6, .ptr 5 0), (7, .ptr 6 0), (9, .int .i64 t9)], [(0, ([.ints .u8 b0_0 b0_1], 0, .ro)), (2, ([.ints .u32 b2_0 b2_1], 0, .ro)), (4, ([.ints .u32 8 b4], 60, .norm)), (5, ([.ints .u32 8 b5], 60, .norm)), (6, ([.ints .u32 64 b6], 80, .norm))], 7⟩ => some (t2, t9, b0_0, b0_1, b2_0, b2_1, b4, b5, b6)
  | _ => none
def f35.s2.o0 (y : f35.Ty3) : VS := ⟨[(2, .vw true 2 0 y.1 3), (3, .ptr 4 0), (6, .ptr 5 0), (7, .ptr 6 0)], [(0, ([.ints .u8 y.2.1 y.2.2.1], 0, .ro)), (2, ([.ints .u32 y.2.2.2.1 y.2.2.2.2.1], 0, .ro)), (4, ([.ints .u32 8 y.2.2.2.2.2.1], 60, .norm)), (5, ([.ints .u32 8 y.2.2.2.2.2.2.1], 60, .norm)), (6, ([.ints .u32 64 y.2.2.2.2.2.2.2], 80, .norm))], 7⟩
def f35.s2.des : ∀ α : Type, (f35.Ty3) → (Ex → VS → Option α) → Option α := (des1 (.exit 2) f35.s2.o0)
def f35.s2.out : f35.Ty3 → Ex × VS := (fun y => (.exit 2, f35.s2.o0 y))
theorem f35.s2.desOK : ∀ α y (k : Ex → VS → Option α), f35.s2.des α y k = k (f35.s2.out y).1 (f35.s2.out y).2 := (fun _ _ _ => rfl)
def f35.s2.inY : Ex → VS → Option (f35.Ty3)
  | .exit 2, ⟨[(2, .vw true 2 0 t2 3), (3, .ptr 4 0), (6, .ptr 5 0), (7, .ptr 6 0)], [(0, ([.ints .u8 b0_0 b0_1], 0, .ro)), (2, ([.ints .u32 b2_0 b2_1], 0, .ro)), (4, ([.ints .u32 8 b4], 60, .norm)), (5, ([.ints .u32 8 b5], 60, .norm)), (6, ([.ints .u32 64 b6], 80, .norm))], 7⟩ => some (t2, b0_0, b0_1, b2_0, b2_1, b4, b5, b6)
  | _, _ => none
def f35.s4t (K : Nat) (rec : f35.Ty0 → Option (f35.Ty5)) (t2 : Nat) (t13 : Int) (b0_0 : Nat) (b0_1 : List Int) (b2_0 : Nat) (b2_1 : List Int) (b4 : List Int) (b5 : List Int) (b6 : List Int) (b7 : List Int) : Option (f35.Ty5) :=
  bif (decide (t13 < 64)) then
    let v63 := List.getD b7 0 0
    let v64 := List.getD b7 4 0
    (f42.F K (v64, 6)).bind fun y66 =>
    (f42.F K (v64, 11)).bind fun y67 =>
    (f42.F K (v64, 25)).bind fun y69 =>
    bif decide (0 ≤ t13 ∧ t13 < ((t2 : Nat) : Int)) then
      let v79 := 0 + (Int.toNat t13)
      bif Nat.blt v79 b2_0 then
        bif decide (0 ≤ t13 ∧ t13 < 64) then
          let v84 := IntKind.wrap .u32 ((IntKind.wrap .u32 ((IntKind.wrap .u32 ((IntKind.wrap .u32 ((List.getD b7 7 0) + (bits .xor .u32 (bits .xor .u32 y66 y67) y69))) + (bits .xor .u32 (bits .and .u32 v64 (List.getD b7 5 0)) (bits .and .u32 (bits .xor .u32 4294967295 v64) (List.getD b7 6 0))))) + (List.getD b2_1 v79 0))) + (List.getD b6 (Int.toNat t13) 0))
          (f42.F K (v63, 2)).bind fun y85 =>
          (f42.F K (v63, 13)).bind fun y86 =>
          (f42.F K (v63, 22)).bind fun y88 =>
          rec (t2, (IntKind.wrap .i64 (t13 + 1)), b0_0, b0_1, b2_0, b2_1, b4, b5, b6, [(IntKind.wrap .u32 (v84 + (IntKind.wrap .u32 ((bits .xor .u32 (bits .xor .u32 y85 y86) y88) + (bits .or .u32 (bits .or .u32 (bits .and .u32 v63 (List.getD b7 1 0)) (bits .and .u32 v63 (List.getD b7 2 0))) (bits .and .u32 (List.getD b7 1 0) (List.getD b7 2 0))))))), v63, (List.getD b7 1 0), (List.getD b7 2 0), (IntKind.wrap .u32 ((List.getD b7 3 0) + v84)), v64, (List.getD b7 5 0), (List.getD b7 6 0)])
        else
          none
      else
        none
    else
      none
  else
    some (b0_0, b0_1, b2_0, b2_1, b4, b5, b7)
def f35.s4 (K : Nat) (rec : f35.Ty0 → Option (f35.Ty5)) (x : f35.Ty0) : Option (f35.Ty5) := f35.s4t K rec x.1 x.2.1 x.2.2.1 x.2.2.2.1 x.2.2.2.2.1 x.2.2.2.2.2.1 x.2.2.2.2.2.2.1 x.2.2.2.2.2.2.2.1 x.2.2.2.2.2.2.2.2.1 x.2.2.2.2.2.2.2.2.2
noncomputable def f35.s4.b : Code := (findLoop 4 f35.c).getD .skip
def f35.s4.h : Hint := { lv := [2, 3, 6, 7, 12, 13] }
def f35.s4.ho : Hint := { lv := [3, 6, 12] }
def f35.s4.shp (x : f35.Ty0) : VS := ⟨[(2, .vw true 2 0 x.1 3), (3, .ptr 4 0), (6, .ptr 5 0), (7, .ptr 6 0), (12, .ptr 7 0), (13, .int .i64 x.2.1)], [(0, ([.ints .u8 x.2.2.1 x.2.2.2.1], 0, .ro)), (2, ([.ints .u32 x.2.2.2.2.1 x.2.2.2.2.2.1], 0, .ro)), (4, ([.ints .u32 8 x.2.2.2.2.2.2.1], 60, .norm)), (5, ([.ints .u32 8 x.2.2.2.2.2.2.2.1], 60, .norm)), (6, ([.ints .u32 64 x.2.2.2.2.2.2.2.2.1], 80, .norm)), (7, ([.ints .u32 8 x.2.2.2.2.2.2.2.2.2], 60, .norm))], 8⟩
def f35.s4.inX : VS → Option (f35.Ty0)
  | ⟨[(2, .vw true 2 0 t2 3), (3, .ptr 4 0), (6, .ptr 5 0), (7, .ptr 6 0), (12, .ptr 7 0), (13, .int .i64 t13)], [(0, ([.ints .u8 b0_0 b0_1], 0, .ro)), (2, ([.ints .u32 b2_0 b2_1], 0, .ro)), (4, ([.ints .u32 8 b4], 60, .norm)), (5, ([.ints .u32 8 b5], 60, .norm)), (6, ([.ints .u32 64 b6], 80, .norm)), (7, ([.ints .u32 8 b7], 60, .norm))], 8⟩ => some (t2, t13, b0_0, b0_1, b2_0, b2_1, b4, b5, b6, b7)
  | _ => none
def f35.s4.o0 (y : f35.Ty5) : VS := ⟨[(3, .ptr 4 0), (6, .ptr 5 0), (12, .ptr 6 0)], [(0, ([.ints .u8 y.1 y.2.1], 0, .ro)), (2, ([.ints .u32 y.2.2.1 y.2.2.2.1], 0, .ro)), (4, ([.ints .u32 8 y.2.2.2.2.1], 60, .norm)), (5, ([.ints .u32 8 y.2.2.2.2.2.1], 60, .norm)), (6, ([.ints .u32 8 y.2.2.2.2.2.2], 60, .norm))], 7⟩
def f35.s4.des : ∀ α : Type, (f35.Ty5) → (Ex → VS → Option α) → Option α := (des1 (.exit 4) f35.s4.o0)
def f35.s4.out : f35.Ty5 → Ex × VS := (fun y => (.exit 4, f35.s4.o0 y))
theorem f35.s4.desOK : ∀ α y (k : Ex → VS → Option α), f35.s4.des α y k = k (f35.s4.out y).1 (f35.s4.out y).2 := (fun _ _ _ => rfl)
def f35.s4.inY : Ex → VS → Option (f35.Ty5)
  | .exit 4, ⟨[(3, .ptr 4 0), (6, .ptr 5 0), (12, .ptr 6 0)], [(0, ([.ints .u8 b0_0 b0_1], 0, .ro)), (2, ([.ints .u32 b2_0 b2_1], 0, .ro)), (4, ([.ints .u32 8 b4], 60, .norm)), (5, ([.ints .u32 8 b5], 60, .norm)), (6, ([.ints .u32 8 b6], 60, .norm))], 7⟩ => some (b0_0, b0_1, b2_0, b2_1, b4, b5, b6)
  | _, _ => none
def f35.s6t (_K : Nat) (rec : f35.Ty4 → Option (f35.Ty7)) (t18 : Int) (b0_0 : Nat) (b0_1 : List Int) (b2_0 : Nat) (b2_1 : List Int) (b4 : List Int) (b5 : List Int) (b6 : List Int) : Option (f35.Ty7) :=
  bif (decide (t18 < 8)) then
    bif decide (0 ≤ t18 ∧ t18 < 8) then
      bif decide (0 ≤ t18 ∧ t18 < 8) then
        bif decide (0 ≤ t18 ∧ t18 < 8) then
          rec ((IntKind.wrap .i64 (t18 + 1)), b0_0, b0_1, b2_0, b2_1, b4, b5, (setD b6 (Int.toNat t18) (IntKind.wrap .u32 ((List.getD b6 (Int.toNat t18) 0) + (List.getD b4 (Int.toNat t18) 0)))))
        else
          none
      else
        none
    else
      none
  else
    some (b0_0, b0_1, b2_0, b2_1, b5, b6)
def f35.s6 (K : Nat) (rec : f35.Ty4 → Option (f35.Ty7)) (x : f35.Ty4) : Option (f35.Ty7) := f35.s6t K rec x.1 x.2.1 x.2.2.1 x.2.2.2.1 x.2.2.2.2.1 x.2.2.2.2.2.1 x.2.2.2.2.2.2.1 x.2.2.2.2.2.2.2
noncomputable def f35.s6.b : Code := (findLoop 6 f35.c).getD .skip
def f35.s6.h : Hint := { lv := [3, 6, 12, 18] }
def f35.s6.ho : Hint := { lv := [6, 12] }
def f35.s6.shp (x : f35.Ty4) : VS := ⟨[(3, .ptr 4 0), (6, .ptr 5 0), (12, .ptr 6 0), (18, .int .i64 x.1)], [(0, ([.ints .u8 x.2.1 x.2.2.1], 0, .ro)), (2, ([.ints .u32 x.2.2.2.1 x.2.2.2.2.1], 0, .ro)), (4, ([.ints .u32 8 x.2.2.2.2.2.1], 60, .norm)), (5, ([.ints .u32 8 x.2.2.2.2.2.2.1], 60, .norm)), (6, ([.ints .u32 8 x.2.2.2.2.2.2.2], 60, .norm))], 7⟩
def f35.s6.inX : VS → Option (f35.Ty4)
  | ⟨[(3, .ptr 4 0), (6, .ptr 5 0), (12, .ptr 6 0), (18, .int .i64 t18)], [(0, ([.ints .u8 b0_0 b0_1], 0, .ro)), (2, ([.ints .u32 b2_0 b2_1], 0, .ro)), (4, ([.ints .u32 8 b4], 60, .norm)), (5, ([.ints .u32 8 b5], 60, .norm)), (6, ([.ints .u32 8 b6], 60, .norm))], 7⟩ => some (t18, b0_0, b0_1, b2_0, b2_1, b4, b5, b6)
  | _ => none
def f35.s6.o0 (y : f35.Ty7) : VS := ⟨[(6, .ptr 4 0), (12, .ptr 5 0)], [(0, ([.ints .u8 y.1 y.2.1], 0, .ro)), (2, ([.ints .u32 y.2.2.1 y.2.2.2.1], 0, .ro)), (4, ([.ints .u32 8 y.2.2.2.2.1], 60, .norm)), (5, ([.ints .u32 8 y.2.2.2.2.2], 60, .norm))], 6⟩
def f35.s6.des : ∀ α : Type, (f35.Ty7) → (Ex → VS → Option α) → Option α := (des1 (.exit 6) f35.s6.o0)
def f35.s6.out : f35.Ty7 → Ex × VS := (fun y => (.exit 6, f35.s6.o0 y))
theorem f35.s6.desOK : ∀ α y (k : Ex → VS → Option α), f35.s6.des α y k = k (f35.s6.out y).1 (f35.s6.out y).2 := (fun _ _ _ => rfl)
def f35.s6.inY : Ex → VS → Option (f35.Ty7)
  | .exit 6, ⟨[(6, .ptr 4 0), (12, .ptr 5 0)], [(0, ([.ints .u8 b0_0 b0_1], 0, .ro)), (2, ([.ints .u32 b2_0 b2_1], 0, .ro)), (4, ([.ints .u32 8 b4], 60, .norm)), (5, ([.ints .u32 8 b5], 60, .norm))], 6⟩ => some (b0_0, b0_1, b2_0, b2_1, b4, b5)
  | _, _ => none
def f35.lp (K : Nat) : Nat → Option (Hint × Summ) := tabLp [(0, f35.s0.h, summOf (iter (f35.s0 K) K) f35.s0.inX f35.s0.des), (2, f35.s2.h, summOf (iter (f35.s2 K) K) f35.s2.inX f35.s2.des), (4, f35.s4.h, summOf (iter (f35.s4 K) K) f35.s4.inX f35.s4.des), (6, f35.s6.h, summOf (iter (f35.s6 K) K) f35.s6.inX f35.s6.des)]
noncomputable def f35.tab (K : Nat) : List (Nat × Entry) := [(42, (f42.E K))]
theorem f35.tabOK (K : Nat) : SpecOK Tryd.prog (tabSp (f35.tab K)) := tab_ok ((tab_cons (f42.ok K) tab_nil))
theorem f35.s0.eq (K : Nat) (rec : f35.Ty1 → Option (f35.Ty3)) (x : f35.Ty1) : f35.s0 K rec x = roundL (getA tys) (tabSp (f35.tab K)) 195 4 (f35.lp K) 400 f35.s0.b f35.s0.h f35.s0.ho f35.s0.shp f35.s0.inX f35.s0.inY rec x := by kernel_rfl
theorem f35.s0.lok (K : Nat) : LoopsOK Tryd.prog 195 4 (f35.lp K) f35.s0.b := loops_ok (by
  have h : loopsIn (f35.lp K) f35.s0.b = [] := by kernel_rfl
  rw [h]; simp)
theorem f35.s0.ok (K : Nat) : SummOK Tryd.prog 195 4 (summOf (iter (f35.s0 K) K) f35.s0.inX f35.s0.des) f35.s0.b :=
  loop_ok mix tys_ok (f35.tabOK K) (h := f35.s0.h) (ho := f35.s0.ho) (shp := f35.s0.shp) (inX := f35.s0.inX) (des := f35.s0.des) (out := f35.s0.out) (inY := f35.s0.inY) (fuel := 400)
    (by intro st x h; unfold f35.s0.inX at h; split at h <;> simp at h; subst h; rfl)
    (by intro e st y h; unfold f35.s0.inY at h; split at h <;> simp at h <;> subst h <;> rfl)
    f35.s0.desOK (f35.s0.lok K) (f35.s0 K) (f35.s0.eq K) K
theorem f35.s2.eq (K : Nat) (rec : f35.Ty2 → Option (f35.Ty3)) (x : f35.Ty2) : f35.s2 K rec x = roundL (getA tys) (tabSp (f35.tab K)) 195 4 (f35.lp K) 400 f35.s2.b f35.s2.h f35.s2.ho f35.s2.shp f35.s2.inX f35.s2.inY rec x := by kernel_rfl
theorem f35.s2.lok (K : Nat) : LoopsOK Tryd.prog 195 4 (f35.lp K) f35.s2.b := loops_ok (by
  have h : loopsIn (f35.lp K) f35.s2.b = [] := by kernel_rfl
  rw [h]; simp)
theorem f35.s2.ok (K : Nat) : SummOK Tryd.prog 195 4 (summOf (iter (f35.s2 K) K) f35.s2.inX f35.s2.des) f35.s2.b :=
  loop_ok mix tys_ok (f35.tabOK K) (h := f35.s2.h) (ho := f35.s2.ho) (shp := f35.s2.shp) (inX := f35.s2.inX) (des := f35.s2.des) (out := f35.s2.out) (inY := f35.s2.inY) (fuel := 400)
    (by intro st x h; unfold f35.s2.inX at h; split at h <;> simp at h; subst h; rfl)
    (by intro e st y h; unfold f35.s2.inY at h; split at h <;> simp at h <;> subst h <;> rfl)
    f35.s2.desOK (f35.s2.lok K) (f35.s2 K) (f35.s2.eq K) K
theorem f35.s4.eq (K : Nat) (rec : f35.Ty0 → Option (f35.Ty5)) (x : f35.Ty0) : f35.s4 K rec x = roundL (getA tys) (tabSp (f35.tab K)) 195 4 (f35.lp K) 400 f35.s4.b f35.s4.h f35.s4.ho f35.s4.shp f35.s4.inX f35.s4.inY rec x := by kernel_rfl
theorem f35.s4.lok (K : Nat) : LoopsOK Tryd.prog 195 4 (f35.lp K) f35.s4.b := loops_ok (by
  have h : loopsIn (f35.lp K) f35.s4.b = [] := by kernel_rfl
  rw [h]; simp)
theorem f35.s4.ok (K : Nat) : SummOK Tryd.prog 195 4 (summOf (iter (f35.s4 K) K) f35.s4.inX f35.s4.des) f35.s4.b :=
  loop_ok mix tys_ok (f35.tabOK K) (h := f35.s4.h) (ho := f35.s4.ho) (shp := f35.s4.shp) (inX := f35.s4.inX) (des := f35.s4.des) (out := f35.s4.out) (inY := f35.s4.inY) (fuel := 400)
    (by intro st x h; unfold f35.s4.inX at h; split at h <;> simp at h; subst h; rfl)
    (by intro e st y h; unfold f35.s4.inY at h; split at h <;> simp at h <;> subst h <;> rfl)
    f35.s4.desOK (f35.s4.lok K) (f35.s4 K) (f35.s4.eq K) K
theorem f35.s6.eq (K : Nat) (rec : f35.Ty4 → Option (f35.Ty7)) (x : f35.Ty4) : f35.s6 K rec x = roundL (getA tys) (tabSp (f35.tab K)) 195 4 (f35.lp K) 400 f35.s6.b f35.s6.h f35.s6.ho f35.s6.shp f35.s6.inX f35.s6.inY rec x := by kernel_rfl
theorem f35.s6.lok (K : Nat) : LoopsOK Tryd.prog 195 4 (f35.lp K) f35.s6.b := loops_ok (by
  have h : loopsIn (f35.lp K) f35.s6.b = [] := by kernel_rfl
  rw [h]; simp)
theorem f35.s6.ok (K : Nat) : SummOK Tryd.prog 195 4 (summOf (iter (f35.s6 K) K) f35.s6.inX f35.s6.des) f35.s6.b :=
  loop_ok mix tys_ok (f35.tabOK K) (h := f35.s6.h) (ho := f35.s6.ho) (shp := f35.s6.shp) (inX := f35.s6.inX) (des := f35.s6.des) (out := f35.s6.out) (inY := f35.s6.inY) (fuel := 400)
    (by intro st x h; unfold f35.s6.inX at h; split at h <;> simp at h; subst h; rfl)
    (by intro e st y h; unfold f35.s6.inY at h; split at h <;> simp at h <;> subst h <;> rfl)
    f35.s6.desOK (f35.s6.lok K) (f35.s6 K) (f35.s6.eq K) K
theorem f35.loops (K : Nat) : LoopsOK Tryd.prog 195 4 (f35.lp K) f35.c := loops_ok (by
  have h : loopsIn (f35.lp K) f35.c = [(0, f35.s0.b), (2, f35.s2.b), (4, f35.s4.b), (6, f35.s6.b)] := by kernel_rfl
  rw [h]
  intro p hp
  simp only [List.mem_cons, List.not_mem_nil, or_false] at hp
  rcases hp with rfl | rfl | rfl | rfl
  · exact ⟨_, rfl, (f35.s0.ok K)⟩
  · exact ⟨_, rfl, (f35.s2.ok K)⟩
  · exact ⟨_, rfl, (f35.s4.ok K)⟩
  · exact ⟨_, rfl, (f35.s6.ok K)⟩)
def f35.T (K : Nat) (a0 : List Int) (a1 : Nat) (a2 : Nat) (m0_0 : Nat) (m0_1 : List Int) (m2_0 : Nat) (m2_1 : List Int) : Option (f35.Ty8) :=
  (iter (f35.s0 K) K (a1, a2, 0, m0_0, m0_1, m2_0, m2_1, a0, [0, 0, 0, 0, 0, 0, 0, 0], [0, 0, 0, 0, 0, 0, 0, 0, 0, 0, 0, 0, 0, 0, 0, 0, 0, 0, 0, 0, 0, 0, 0, 0, 0, 0, 0, 0, 0, 0, 0, 0, 0, 0, 0, 0, 0, 0, 0, 0, 0, 0, 0, 0, 0, 0, 0, 0, 0, 0, 0, 0, 0, 0, 0, 0, 0, 0, 0, 0, 0, 0, 0, 0])).bind fun y30 =>
  (iter (f35.s2 K) K (y30.1, 16, y30.2.1, y30.2.2.1, y30.2.2.2.1, y30.2.2.2.2.1, y30.2.2.2.2.2.1, y30.2.2.2.2.2.2.1, y30.2.2.2.2.2.2.2)).bind fun y60 =>
  (iter (f35.s4 K) K (y60.1, 0, y60.2.1, y60.2.2.1, y60.2.2.2.1, y60.2.2.2.2.1, y60.2.2.2.2.2.1, y60.2.2.2.2.2.2.1, y60.2.2.2.2.2.2.2, y60.2.2.2.2.2.1)).bind fun y108 =>
  (iter (f35.s6 K) K (0, y108.1, y108.2.1, y108.2.2.1, y108.2.2.2.1, y108.2.2.2.2.1, y108.2.2.2.2.2.1, y108.2.2.2.2.2.2)).bind fun y118 =>
  some (y118.2.2.2.2.2, y118.1, y118.2.1, y118.2.2.1, y118.2.2.2.1)
def f35.F (K : Nat) (x : f35.Ty6) : Option (f35.Ty8) := f35.T K x.1 x.2.1 x.2.2.1 x.2.2.2.1 x.2.2.2.2.1 x.2.2.2.2.2.1 x.2.2.2.2.2.2
def f35.av (x : f35.Ty6) : List VV := [.agg [.ints .u32 8 x.1], .vw true 0 0 x.2.1 1, .vw true 2 0 x.2.2.1 3]
def f35.bl (x : f35.Ty6) : List (Nat × Blk) := [(0, ([.ints .u8 x.2.2.2.1 x.2.2.2.2.1], 0, .ro)), (2, ([.ints .u32 x.2.2.2.2.2.1 x.2.2.2.2.2.2], 0, .ro))]
def f35.inA : VS → Option (f35.Ty6)
  | ⟨[(0, .agg [.ints .u32 8 a0]), (1, .vw true 0 0 a1 1), (2, .vw true 2 0 a2 3)], [(0, ([.ints .u8 m0_0 m0_1], 0, .ro)), (2, ([.ints .u32 m2_0 m2_1], 0, .ro))], 4⟩ => some (a0, a1, a2, m0_0, m0_1, m2_0, m2_1)
  | _ => none
def f35.o0 (y : f35.Ty8) : VS := ⟨[(0, .agg [.ints .u32 8 y.1])], [(0, ([.ints .u8 y.2.1 y.2.2.1], 0, .ro)), (2, ([.ints .u32 y.2.2.2.1 y.2.2.2.2], 0, .ro))], 4⟩
def f35.des : ∀ α : Type, (f35.Ty8) → (VS → Option α) → Option α := (dv1 f35.o0)
def f35.out : f35.Ty8 → VS := f35.o0
def f35.inR : VS → Option (f35.Ty8)
  | ⟨[(0, .agg [.ints .u32 8 y])], [(0, ([.ints .u8 z0_0 z0_1], 0, .ro)), (2, ([.ints .u32 z2_0 z2_1], 0, .ro))], 4⟩ => some (y, z0_0, z0_1, z2_0, z2_1)
  | _ => none
noncomputable def f35.E (K : Nat) : Entry := genE 4 f35.inA (f35.F K) f35.des
theorem f35.eq (K : Nat) (x : f35.Ty6) : f35.F K x = xrun (getA tys) (tabSp (f35.tab K)) Tryd.f35.ntmps 4 (f35.lp K) 400 f35.c ⟨initL 0 (f35.av x), f35.bl x, 4⟩ (contF (getA tys) 4 Tryd.f35.results.toList f35.inR) := by kernel_rfl
theorem f35.ok (K : Nat) : EntryOK Tryd.prog 35 (f35.E K) :=
  gen_ok mix tys_ok (f35.tabOK K) Tryd.func35 (by kernel_rfl : Tryd.f35.body = some f35.c) (by kernel_rfl) (f35.loops K) (av := f35.av) (bl := f35.bl) (out := f35.out) (fuel := 400)
    (by intro s x h; unfold f35.inA at h; split at h <;> simp at h; subst h; rfl) (fun _ => Nat.le_of_ble_eq_true rfl)
    (by intro s y h; unfold f35.inR at h; split at h <;> simp at h <;> subst h <;> rfl) (fun _ _ _ => rfl) (f35.eq K)
end Go.Proofs

namespace Go.Proofs
open Go.VM
theorem f42.spec (K : Nat) (x : Int) (n : Nat) (h1 : 1 ≤ n) (h2 : n ≤ 31) : f42.F K (x, (n : Int)) = some (Rf.round x n) := by
  simp only [f42.F, f42.T]
  rw [decide_eq_true (show (0 : Int) ≤ (n : Int) by omega), cond_t, wrap_u _ (by omega) (by omega), decide_eq_true (show (0 : Int) ≤ 32 - (n : Int) by omega), cond_t, Rf.round, show (32 : Int) - (n : Int) = ((32 - n : Nat) : Int) by omega]
theorem four_octets (a b c d : Nat) (ha : a < 256) (hb : b < 256) (hc : c < 256) (hd : d < 256) :
    bits .or .u32 (bits .or .u32 (bits .or .u32 (IntKind.wrap .u32 ((IntKind.wrap .u32 (a : Int)) * 2 ^ 24)) (IntKind.wrap .u32 ((IntKind.wrap .u32 (b : Int)) * 2 ^ 16))) (IntKind.wrap .u32 ((IntKind.wrap .u32 (c : Int)) * 2 ^ 8))) (IntKind.wrap .u32 (d : Int)) = ((a * 2 ^ 24 + b * 2 ^ 16 + c * 2 ^ 8 + d : Nat) : Int) := by
  have w : ∀ z : Nat, z < 4294967296 → IntKind.wrap .u32 (z : Int) = (z : Int) := wrap_32n
  have o : ∀ x y : Nat, x < 4294967296 → y < 4294967296 → bits .or .u32 (x : Int) (y : Int) = ((x ||| y : Nat) : Int) := by
    intro x y hx hy
    rw [bits_or, BitVec.toNat_or]
    simp only [bv, BitVec.ofInt_natCast, BitVec.toNat_ofNat]
    rw [Nat.mod_eq_of_lt (by omega), Nat.mod_eq_of_lt (by omega)]
  have oa : ∀ x y k : Nat, y < 2 ^ k → x * 2 ^ k ||| y = x * 2 ^ k + y := fun x y k h => by
    have := Nat.shiftLeft_add_eq_or_of_lt h x
    rw [Nat.shiftLeft_eq] at this
    exact this.symm
  rw [w a (by omega), w b (by omega), w c (by omega), w d (by omega), show (a : Int) * 2 ^ 24 = ((a * 2 ^ 24 : Nat) : Int) by omega, show (b : Int) * 2 ^ 16 = ((b * 2 ^ 16 : Nat) : Int) by omega, show (c : Int) * 2 ^ 8 = ((c * 2 ^ 8 : Nat) : Int) by omega,
    w _ (by omega), w _ (by omega), w _ (by omega), o _ _ (by omega) (by omega), oa a (b * 2 ^ 16) 24 (by omega), show a * 2 ^ 24 + b * 2 ^ 16 = (a * 2 ^ 8 + b) * 2 ^ 16 by omega, o _ _ (by omega) (by omega), oa _ (c * 2 ^ 8) 16 (by omega),
    show (a * 2 ^ 8 + b) * 2 ^ 16 + c * 2 ^ 8 = ((a * 2 ^ 8 + b) * 2 ^ 8 + c) * 2 ^ 8 by omega, o _ _ (by omega) (by omega), oa _ d 8 (by omega)]
theorem getD_oct {b : List Int} (ho : octets b) (i : Nat) : ∃ n : Nat, n < 256 ∧ b.getD i 0 = (n : Int) := by
  rw [List.getD_eq_getElem?_getD]
  cases e : b[i]? with
  | none => exact ⟨0, by decide, rfl⟩
  | some y => obtain ⟨h1, h2⟩ := ho y (List.mem_of_getElem? e); exact ⟨y.toNat, by omega, by simp; omega⟩
theorem tv_four (b : List Int) (ho : octets b) (t : Nat) : ((tv (subI b (4 * t) 4) : Nat) : Int) = ((( (b.getD (4 * t) 0).toNat * 2 ^ 24 + (b.getD (4 * t + 1) 0).toNat * 2 ^ 16 + (b.getD (4 * t + 2) 0).toNat * 2 ^ 8 + (b.getD (4 * t + 3) 0).toNat : Nat)) : Int) := by
  simp only [subI, List.range, List.range.loop, List.map_cons, List.map_nil, tv, List.foldl_cons, List.foldl_nil, Nat.add_zero]
  congr 1
  omega
def Rf.tab (b : List Int) (i : Nat) : List Int := (List.range 64).map fun k => if k < i then Rf.w b k else 0
theorem Rf.tab_at (b : List Int) (i k : Nat) (hk : k < 64) (hi : k < i) : (Rf.tab b i).getD k 0 = Rf.w b k := by
  simp [Rf.tab, List.getD_eq_getElem?_getD, hk, hi]
theorem Rf.tab_set (b : List Int) (i : Nat) (hi : i < 64) : setD (Rf.tab b i) i (Rf.w b i) = Rf.tab b (i + 1) := by
  have hl : ∀ j, (Rf.tab b j).length = 64 := fun j => by simp [Rf.tab]
  refine ext_getD (by rw [length_setD (by rw [hl]; exact hi), hl, hl]) fun k hk => ?_
  rw [length_setD (by rw [hl]; exact hi), hl] at hk
  rw [setD_at _ _ _ _ (by rw [hl]; exact hi)]
  by_cases h : k = i
  · subst h; rw [if_pos rfl, Rf.tab_at _ _ _ hk (by omega)]
  · rw [if_neg h]
    by_cases h2 : k < i
    · rw [Rf.tab_at _ _ _ hk h2, Rf.tab_at _ _ _ hk (by omega)]
    · simp [Rf.tab, List.getD_eq_getElem?_getD, hk, h2, show ¬ k < i + 1 by omega]
theorem f35.first (K : Nat) (a2 : Nat) (b k4 z5 : List Int) (ho : octets b) (hb : b.length = 64) (hK : 16 < K) (k2 : Nat) (k2l : List Int) :
    iter (f35.s0 K) K (64, a2, 0, 64, b, k2, k2l, k4, z5, Rf.tab b 0) = some (a2, 64, b, k2, k2l, k4, z5, Rf.tab b 16) := by
  have := iter_for (stp := f35.s0 K) (N := 16) (fun i => (64, a2, (i : Int), 64, b, k2, k2l, k4, z5, Rf.tab b i)) (y := some (a2, 64, b, k2, k2l, k4, z5, Rf.tab b 16)) ?_ ?_ hK
  · exact this
  · intro i hi rec
    simp only [f35.s0, f35.s0t]
    have e : ∀ j : Nat, j < 4 → IntKind.wrap .i64 ((IntKind.wrap .i64 (4 * (i : Int))) + (j : Int)) = ((4 * i + j : Nat) : Int) := fun j hj => by
      rw [wrap_i (4 * (i : Int)) (by omega) (by omega), wrap_i _ (by omega) (by omega)]; omega
    have e0 : IntKind.wrap .i64 (4 * (i : Int)) = ((4 * i : Nat) : Int) := by rw [wrap_i _ (by omega) (by omega)]; omega
    have e1 := e 1 (by omega)
    have e2 := e 2 (by omega)
    have e3 := e 3 (by omega)
    rw [show ((1 : Nat) : Int) = 1 from rfl] at e1
    rw [show ((2 : Nat) : Int) = 2 from rfl] at e2
    rw [show ((3 : Nat) : Int) = 3 from rfl] at e3
    have bl : ∀ x, x < 64 → Nat.blt (0 + x) 64 = true := fun x hx => by simp [Nat.blt_eq]; omega
    have dc : ∀ x : Nat, x < 64 → decide ((0 : Int) ≤ (x : Int) ∧ (x : Int) < ((64 : Nat) : Int)) = true := fun x hx => decide_eq_true (by omega)
    obtain ⟨n0, h0, g0⟩ := getD_oct ho (4 * i)
    obtain ⟨n1, h1, g1⟩ := getD_oct ho (4 * i + 1)
    obtain ⟨n2, h2, g2⟩ := getD_oct ho (4 * i + 2)
    obtain ⟨n3, h3, g3⟩ := getD_oct ho (4 * i + 3)
    have hW : Rf.w b i = ((n0 * 2 ^ 24 + n1 * 2 ^ 16 + n2 * 2 ^ 8 + n3 : Nat) : Int) := by
      rw [Rf.w_low b i hi, tv_four b ho, g0, g1, g2, g3]
      simp only [Int.toNat_natCast]
      exact wrap_32n _ (by omega)
    simp only [e1, e2, e3]
    rw [decide_eq_true (show (i : Int) < 16 by omega), cond_t]
    simp only [e0, Int.toNat_natCast]
    rw [dc _ (by omega), cond_t, bl _ (by omega), cond_t, dc _ (by omega), cond_t, bl _ (by omega), cond_t, dc _ (by omega), cond_t, bl _ (by omega), cond_t, dc _ (by omega), cond_t, bl _ (by omega), cond_t, decide_eq_true (show (0 : Int) ≤ (i : Int) ∧ (i : Int) < 64 by omega), cond_t]
    simp only [Nat.zero_add]
    rw [g0, g1, g2, g3, four_octets _ _ _ _ h0 h1 h2 h3, ← hW, Rf.tab_set b i (by omega), wrap_i _ (by omega) (by omega)]
    rfl
  · intro rec
    simp only [f35.s0, f35.s0t]
    rfl
theorem f35.second (K : Nat) (a2 : Nat) (b k4 z5 : List Int) (hK : 64 < K) (k2 : Nat) (k2l : List Int) :
    iter (f35.s2 K) K (a2, 16, 64, b, k2, k2l, k4, z5, Rf.tab b 16) = some (a2, 64, b, k2, k2l, k4, z5, Rf.tab b 64) := by
  have := iter_for (stp := f35.s2 K) (N := 48) (fun i => (a2, ((16 + i : Nat) : Int), 64, b, k2, k2l, k4, z5, Rf.tab b (16 + i))) (y := some (a2, 64, b, k2, k2l, k4, z5, Rf.tab b 64)) ?_ ?_ (show 48 < K by omega)
  · exact this
  · intro j hj rec
    generalize hi : 16 + j = i
    rw [show 16 + (j + 1) = i + 1 by omega]
    simp only [f35.s2, f35.s2t]
    have e : ∀ j : Nat, j ≤ 16 → IntKind.wrap .i64 ((i : Int) - (j : Int)) = ((i - j : Nat) : Int) := fun j hj => by rw [wrap_i _ (by omega) (by omega)]; omega
    have e15 := e 15 (by omega)
    have e2 := e 2 (by omega)
    have e16 := e 16 (by omega)
    have e7 := e 7 (by omega)
    rw [show ((15 : Nat) : Int) = 15 from rfl] at e15
    rw [show ((2 : Nat) : Int) = 2 from rfl] at e2
    rw [show ((16 : Nat) : Int) = 16 from rfl] at e16
    rw [show ((7 : Nat) : Int) = 7 from rfl] at e7
    have dc : ∀ x : Nat, x < 64 → decide ((0 : Int) ≤ (x : Int) ∧ (x : Int) < 64) = true := fun x hx => decide_eq_true (by omega)
    simp only [e15, e2, e16, e7, Int.toNat_natCast]
    rw [decide_eq_true (show (i : Int) < 64 by omega), cond_t, dc _ (by omega), cond_t, dc _ (by omega), cond_t, dc _ (by omega), cond_t, dc _ (by omega), cond_t]
    rw [show ((18 : Int)) = ((18 : Nat) : Int) from rfl, show ((17 : Int)) = ((17 : Nat) : Int) from rfl, show ((19 : Int)) = ((19 : Nat) : Int) from rfl]
    rw [show ∀ x, f42.F K (x, 7) = some (Rf.round x 7) from fun x => f42.spec K x 7 (by omega) (by omega), bind_s, f42.spec K _ 18 (by omega) (by omega), bind_s, f42.spec K _ 17 (by omega) (by omega), bind_s, f42.spec K _ 19 (by omega) (by omega), bind_s, dc _ (by omega), cond_t,
      Rf.tab_at b i (i - 15) (by omega) (by omega), Rf.tab_at b i (i - 2) (by omega) (by omega), Rf.tab_at b i (i - 16) (by omega) (by omega), Rf.tab_at b i (i - 7) (by omega) (by omega)]
    have hW := Rf.w_high b i (by omega)
    unfold Rf.s0 Rf.s1 at hW
    rw [← hW, Rf.tab_set b i (by omega), wrap_i _ (by omega) (by omega)]
    rfl
  · intro rec
    simp only [f35.s2, f35.s2t]
    rfl
end Go.Proofs

namespace Go.Proofs
open Go.VM
abbrev f26.Ty0 := Nat × Int × Nat × List Int × List Int × Nat × List Int × List Int × List Int
abbrev f26.Ty1 := Nat × Int × Int × Nat × List Int × List Int × Nat × List Int
abbrev f26.Ty2 := Nat × Nat × Nat × List Int × List Int × Nat × List Int
abbrev f26.Ty3 := Int × Nat × List Int × List Int × List Int × List Int
abbrev f26.Ty4 := Nat × Nat × List Int × List Int × Nat × List Int
abbrev f26.Ty5 := Nat × List Int × List Int × List Int
abbrev f26.Ty6 := List Int × Nat × List Int
abbrev f26.Ty7 := Nat × Nat × List Int
noncomputable def f26.c : Code := bodyOf Tryd.f26
def f26.s0t (_K : Nat) (rec : f26.Ty2 → Option (f26.Ty2)) (t0 : Nat) (t3 : Nat) (b0_0 : Nat) (b0_1 : List Int) (b2 : List Int) (b3_0 : Nat) (b3_1 : List Int) : Option (f26.Ty2) :=
  bif ((Int.tmod ((t3 : Nat) : Int) 64) != 56) then
    bif (Nat.ble t3 b3_0 && (fitB ((t3 + 1) * 1))) then
      rec (t0, (t3 + 1), b0_0, b0_1, b2, (t3 + 1), ((padT b3_1 t3) ++ [0]))
    else
      none
  else
    some (t0, t3, b0_0, b0_1, b2, b3_0, b3_1)
def f26.s0 (K : Nat) (rec : f26.Ty2 → Option (f26.Ty2)) (x : f26.Ty2) : Option (f26.Ty2) := f26.s0t K rec x.1 x.2.1 x.2.2.1 x.2.2.2.1 x.2.2.2.2.1 x.2.2.2.2.2.1 x.2.2.2.2.2.2
noncomputable def f26.s0.b : Code := (findLoop 0 f26.c).getD .skip
def f26.s0.h : Hint := { lv := [0, 2, 3] }
def f26.s0.ho : Hint := { lv := [0, 2, 3] }
def f26.s0.shp (x : f26.Ty2) : VS := ⟨[(0, .vw true 0 0 x.1 1), (2, .ptr 2 0), (3, .vec 3 0 x.2.1 4)], [(0, ([.ints .u8 x.2.2.1 x.2.2.2.1], 0, .ro)), (2, ([.ints .u8 32 x.2.2.2.2.1], 37, .norm)), (3, ([.ints .u8 x.2.2.2.2.2.1 x.2.2.2.2.2.2], 5, .vec 4))], 5⟩
def f26.s0.inX : VS → Option (f26.Ty2)
  | ⟨[(0, .vw true 0 0 t0 1), (2, .ptr 2 0), (3, .vec 3 0 t3 4)], [(0, ([.ints .u8 b0_0 b0_1], 0, .ro)), (2, ([.ints .u8 32 b2], 37, .norm)), (3, ([.ints .u8 b3_0 b3_1], 5, .vec 4))], 5⟩ => some (t0, t3, b0_0, b0_1, b2, b3_0, b3_1)
  | _ => none
def f26.s0.o0 (y : f26.Ty2) : VS := ⟨[(0, .vw true 0 0 y.1 1), (2, .ptr 2 0), (3, .vec 3 0 y.2.1 4)], [(0, ([.ints .u8 y.2.2.1 y.2.2.2.1], 0, .ro)), (2, ([.ints .u8 32 y.2.2.2.2.1], 37, .norm)), (3, ([.ints .u8 y.2.2.2.2.2.1 y.2.2.2.2.2.2], 5, .vec 4))], 5⟩
def f26.s0.des : ∀ α : Type, (f26.Ty2) → (Ex → VS → Option α) → Option α := (des1 (.exit 0) f26.s0.o0)
def f26.s0.out : f26.Ty2 → Ex × VS := (fun y => (.exit 0, f26.s0.o0 y))
theorem f26.s0.desOK : ∀ α y (k : Ex → VS → Option α), f26.s0.des α y k = k (f26.s0.out y).1 (f26.s0.out y).2 := (fun _ _ _ => rfl)
def f26.s0.inY : Ex → VS → Option (f26.Ty2)
  | .exit 0, ⟨[(0, .vw true 0 0 t0 1), (2, .ptr 2 0), (3, .vec 3 0 t3 4)], [(0, ([.ints .u8 b0_0 b0_1], 0, .ro)), (2, ([.ints .u8 32 b2], 37, .norm)), (3, ([.ints .u8 b3_0 b3_1], 5, .vec 4))], 5⟩ => some (t0, t3, b0_0, b0_1, b2, b3_0, b3_1)
  | _, _ => none
def f26.s2t (_K : Nat) (rec : f26.Ty1 → Option (f26.Ty4)) (t3 : Nat) (t4 : Int) (t5 : Int) (b0_0 : Nat) (b0_1 : List Int) (b2 : List Int) (b3_0 : Nat) (b3_1 : List Int) : Option (f26.Ty4) :=
  bif (decide (t5 < 8)) then
    let v12 := IntKind.wrap .i64 (56 - (IntKind.wrap .i64 (8 * t5)))
    bif decide (0 ≤ v12) then
      bif (Nat.ble t3 b3_0 && (fitB ((t3 + 1) * 1))) then
        rec ((t3 + 1), t4, (IntKind.wrap .i64 (t5 + 1)), b0_0, b0_1, b2, (t3 + 1), ((padT b3_1 t3) ++ [(IntKind.wrap .u8 (shiftI .shr .u64 t4 v12))]))
      else
        none
    else
      none
  else
    some (t3, b0_0, b0_1, b2, b3_0, b3_1)
def f26.s2 (K : Nat) (rec : f26.Ty1 → Option (f26.Ty4)) (x : f26.Ty1) : Option (f26.Ty4) := f26.s2t K rec x.1 x.2.1 x.2.2.1 x.2.2.2.1 x.2.2.2.2.1 x.2.2.2.2.2.1 x.2.2.2.2.2.2.1 x.2.2.2.2.2.2.2
noncomputable def f26.s2.b : Code := (findLoop 2 f26.c).getD .skip
def f26.s2.h : Hint := { lv := [2, 3, 4, 5] }
def f26.s2.ho : Hint := { lv := [2, 3] }
def f26.s2.shp (x : f26.Ty1) : VS := ⟨[(2, .ptr 2 0), (3, .vec 3 0 x.1 4), (4, .int .u64 x.2.1), (5, .int .i64 x.2.2.1)], [(0, ([.ints .u8 x.2.2.2.1 x.2.2.2.2.1], 0, .ro)), (2, ([.ints .u8 32 x.2.2.2.2.2.1], 37, .norm)), (3, ([.ints .u8 x.2.2.2.2.2.2.1 x.2.2.2.2.2.2.2], 5, .vec 4))], 5⟩
def f26.s2.inX : VS → Option (f26.Ty1)
  | ⟨[(2, .ptr 2 0), (3, .vec 3 0 t3 4), (4, .int .u64 t4), (5, .int .i64 t5)], [(0, ([.ints .u8 b0_0 b0_1], 0, .ro)), (2, ([.ints .u8 32 b2], 37, .norm)), (3, ([.ints .u8 b3_0 b3_1], 5, .vec 4))], 5⟩ => some (t3, t4, t5, b0_0, b0_1, b2, b3_0, b3_1)
  | _ => none
def f26.s2.o0 (y : f26.Ty4) : VS := ⟨[(2, .ptr 2 0), (3, .vec 3 0 y.1 4)], [(0, ([.ints .u8 y.2.1 y.2.2.1], 0, .ro)), (2, ([.ints .u8 32 y.2.2.2.1], 37, .norm)), (3, ([.ints .u8 y.2.2.2.2.1 y.2.2.2.2.2], 5, .vec 4))], 5⟩
def f26.s2.des : ∀ α : Type, (f26.Ty4) → (Ex → VS → Option α) → Option α := (des1 (.exit 2) f26.s2.o0)
def f26.s2.out : f26.Ty4 → Ex × VS := (fun y => (.exit 2, f26.s2.o0 y))
theorem f26.s2.desOK : ∀ α y (k : Ex → VS → Option α), f26.s2.des α y k = k (f26.s2.out y).1 (f26.s2.out y).2 := (fun _ _ _ => rfl)
def f26.s2.inY : Ex → VS → Option (f26.Ty4)
  | .exit 2, ⟨[(2, .ptr 2 0), (3, .vec 3 0 t3 4)], [(0, ([.ints .u8 b0_0 b0_1], 0, .ro)), (2, ([.ints .u8 32 b2], 37, .norm)), (3, ([.ints .u8 b3_0 b3_1], 5, .vec 4))], 5⟩ => some (t3, b0_0, b0_1, b2, b3_0, b3_1)
  | _, _ => none
def f26.s4t (K : Nat) (rec : f26.Ty0 → Option (f26.Ty5)) (t3 : Nat) (t8 : Int) (b0_0 : Nat) (b0_1 : List Int) (b2 : List Int) (b3_0 : Nat) (b3_1 : List Int) (b5 : List Int) (b6 : List Int) : Option (f26.Ty5) :=
  bif (decide (t8 < ((t3 : Nat) : Int))) then
    let v21 := IntKind.wrap .i64 (t8 + 64)
    bif ((decide (0 ≤ v21 ∧ v21 ≤ ((t3 : Nat) : Int)) && (decide (0 ≤ t8 ∧ t8 ≤ ((Int.toNat v21 : Nat) : Int)))) && (Nat.ble (0 + t3) b3_0)) then
      let v22 := 0 + (Int.toNat t8)
      let v23 := (Int.toNat v21) - (Int.toNat t8)
      bif ((Nat.ble (v22 + v23) b3_0 && true) && true) then
        (f35.F K (b5, v23, 64, v23, (subI b3_1 v22 v23), 64, (subI b6 0 64))).bind fun y24 =>
        rec (t3, (IntKind.wrap .i64 (t8 + 64)), b0_0, b0_1, b2, b3_0, b3_1, y24.1, b6)
      else
        none
    else
      none
  else
    some (b0_0, b0_1, b2, b5)
def f26.s4 (K : Nat) (rec : f26.Ty0 → Option (f26.Ty5)) (x : f26.Ty0) : Option (f26.Ty5) := f26.s4t K rec x.1 x.2.1 x.2.2.1 x.2.2.2.1 x.2.2.2.2.1 x.2.2.2.2.2.1 x.2.2.2.2.2.2.1 x.2.2.2.2.2.2.2.1 x.2.2.2.2.2.2.2.2
noncomputable def f26.s4.b : Code := (findLoop 4 f26.c).getD .skip
def f26.s4.h : Hint := { lv := [2, 3, 6, 7, 8] }
def f26.s4.ho : Hint := { lv := [2, 6] }
def f26.s4.shp (x : f26.Ty0) : VS := ⟨[(2, .ptr 2 0), (3, .vec 3 0 x.1 4), (6, .ptr 5 0), (7, .sl 6 0 64 64), (8, .int .i64 x.2.1)], [(0, ([.ints .u8 x.2.2.1 x.2.2.2.1], 0, .ro)), (2, ([.ints .u8 32 x.2.2.2.2.1], 37, .norm)), (3, ([.ints .u8 x.2.2.2.2.2.1 x.2.2.2.2.2.2.1], 5, .vec 4)), (5, ([.ints .u32 8 x.2.2.2.2.2.2.2.1], 60, .norm)), (6, ([.ints .u32 64 x.2.2.2.2.2.2.2.2], 59, .norm))], 7⟩
def f26.s4.inX : VS → Option (f26.Ty0)
  | ⟨[(2, .ptr 2 0), (3, .vec 3 0 t3 4), (6, .ptr 5 0), (7, .sl 6 0 64 64), (8, .int .i64 t8)], [(0, ([.ints .u8 b0_0 b0_1], 0, .ro)), (2, ([.ints .u8 32 b2], 37, .norm)), (3, ([.ints .u8 b3_0 b3_1], 5, .vec 4)), (5, ([.ints .u32 8 b5], 60, .norm)), (6, ([.ints .u32 64 b6], 59, .norm))], 7⟩ => some (t3, t8, b0_0, b0_1, b2, b3_0, b3_1, b5, b6)
  | _ => none
def f26.s4.o0 (y : f26.Ty5) : VS := ⟨[(2, .ptr 2 0), (6, .ptr 3 0)], [(0, ([.ints .u8 y.1 y.2.1], 0, .ro)), (2, ([.ints .u8 32 y.2.2.1], 37, .norm)), (3, ([.ints .u32 8 y.2.2.2], 60, .norm))], 4⟩
def f26.s4.des : ∀ α : Type, (f26.Ty5) → (Ex → VS → Option α) → Option α := (des1 (.exit 4) f26.s4.o0)
def f26.s4.out : f26.Ty5 → Ex × VS := (fun y => (.exit 4, f26.s4.o0 y))
theorem f26.s4.desOK : ∀ α y (k : Ex → VS → Option α), f26.s4.des α y k = k (f26.s4.out y).1 (f26.s4.out y).2 := (fun _ _ _ => rfl)
def f26.s4.inY : Ex → VS → Option (f26.Ty5)
  | .exit 4, ⟨[(2, .ptr 2 0), (6, .ptr 3 0)], [(0, ([.ints .u8 b0_0 b0_1], 0, .ro)), (2, ([.ints .u8 32 b2], 37, .norm)), (3, ([.ints .u32 8 b3], 60, .norm))], 4⟩ => some (b0_0, b0_1, b2, b3)
  | _, _ => none
def f26.s6t (_K : Nat) (rec : f26.Ty3 → Option (f26.Ty5)) (t10 : Int) (b0_0 : Nat) (b0_1 : List Int) (b2 : List Int) (b3 : List Int) (b4 : List Int) : Option (f26.Ty5) :=
  bif (decide (t10 < 32)) then
    let v28 := IntKind.wrap .i64 (Int.tdiv t10 4)
    bif decide (0 ≤ v28 ∧ v28 < 8) then
      let v33 := IntKind.wrap .i64 (24 - (IntKind.wrap .i64 (8 * (Int.tmod t10 4))))
      bif decide (0 ≤ v33) then
        bif decide (0 ≤ t10 ∧ t10 < 32) then
          rec ((IntKind.wrap .i64 (t10 + 1)), b0_0, b0_1, b2, b3, (setD b4 (Int.toNat t10) (IntKind.wrap .u8 (shiftI .shr .u32 (List.getD b3 (Int.toNat v28) 0) v33))))
        else
          none
      else
        none
    else
      none
  else
    some (b0_0, b0_1, b2, b4)
def f26.s6 (K : Nat) (rec : f26.Ty3 → Option (f26.Ty5)) (x : f26.Ty3) : Option (f26.Ty5) := f26.s6t K rec x.1 x.2.1 x.2.2.1 x.2.2.2.1 x.2.2.2.2.1 x.2.2.2.2.2
noncomputable def f26.s6.b : Code := (findLoop 6 f26.c).getD .skip
def f26.s6.h : Hint := { lv := [2, 6, 9, 10] }
def f26.s6.ho : Hint := { lv := [2, 9] }
def f26.s6.shp (x : f26.Ty3) : VS := ⟨[(2, .ptr 2 0), (6, .ptr 3 0), (9, .ptr 4 0), (10, .int .i64 x.1)], [(0, ([.ints .u8 x.2.1 x.2.2.1], 0, .ro)), (2, ([.ints .u8 32 x.2.2.2.1], 37, .norm)), (3, ([.ints .u32 8 x.2.2.2.2.1], 60, .norm)), (4, ([.ints .u8 32 x.2.2.2.2.2], 37, .norm))], 5⟩
def f26.s6.inX : VS → Option (f26.Ty3)
  | ⟨[(2, .ptr 2 0), (6, .ptr 3 0), (9, .ptr 4 0), (10, .int .i64 t10)], [(0, ([.ints .u8 b0_0 b0_1], 0, .ro)), (2, ([.ints .u8 32 b2], 37, .norm)), (3, ([.ints .u32 8 b3], 60, .norm)), (4, ([.ints .u8 32 b4], 37, .norm))], 5⟩ => some (t10, b0_0, b0_1, b2, b3, b4)
  | _ => none
def f26.s6.o0 (y : f26.Ty5) : VS := ⟨[(2, .ptr 2 0), (9, .ptr 3 0)], [(0, ([.ints .u8 y.1 y.2.1], 0, .ro)), (2, ([.ints .u8 32 y.2.2.1], 37, .norm)), (3, ([.ints .u8 32 y.2.2.2], 37, .norm))], 4⟩
def f26.s6.des : ∀ α : Type, (f26.Ty5) → (Ex → VS → Option α) → Option α := (des1 (.exit 6) f26.s6.o0)
def f26.s6.out : f26.Ty5 → Ex × VS := (fun y => (.exit 6, f26.s6.o0 y))
theorem f26.s6.desOK : ∀ α y (k : Ex → VS → Option α), f26.s6.des α y k = k (f26.s6.out y).1 (f26.s6.out y).2 := (fun _ _ _ => rfl)
def f26.s6.inY : Ex → VS → Option (f26.Ty5)
  | .exit 6, ⟨[(2, .ptr 2 0), (9, .ptr 3 0)], [(0, ([.ints .u8 b0_0 b0_1], 0, .ro)), (2, ([.ints .u8 32 b2], 37, .norm)), (3, ([.ints .u8 32 b3], 37, .norm))], 4⟩ => some (b0_0, b0_1, b2, b3)
  | _, _ => none
def f26.lp (K : Nat) : Nat → Option (Hint × Summ) := tabLp [(0, f26.s0.h, summOf (iter (f26.s0 K) K) f26.s0.inX f26.s0.des), (2, f26.s2.h, summOf (iter (f26.s2 K) K) f26.s2.inX f26.s2.des), (4, f26.s4.h, summOf (iter (f26.s4 K) K) f26.s4.inX f26.s4.des), (6, f26.s6.h, summOf (iter (f26.s6 K) K) f26.s6.inX f26.s6.des)]
noncomputable def f26.tab (K : Nat) : List (Nat × Entry) := [(34, (f34.E K)), (35, (viewE [(1, .u8), (2, .u32)] (f35.E K)))]
theorem f26.tabOK (K : Nat) : SpecOK Tryd.prog (tabSp (f26.tab K)) := tab_ok ((tab_cons (f34.ok K) (tab_cons (view_ok (f35.ok K)) tab_nil)))
theorem f26.s0.eq (K : Nat) (rec : f26.Ty2 → Option (f26.Ty2)) (x : f26.Ty2) : f26.s0 K rec x = roundL (getA tys) (tabSp (f26.tab K)) 72 2 (f26.lp K) 400 f26.s0.b f26.s0.h f26.s0.ho f26.s0.shp f26.s0.inX f26.s0.inY rec x := by kernel_rfl
theorem f26.s0.lok (K : Nat) : LoopsOK Tryd.prog 72 2 (f26.lp K) f26.s0.b := loops_ok (by
  have h : loopsIn (f26.lp K) f26.s0.b = [] := by kernel_rfl
  rw [h]; simp)
theorem f26.s0.ok (K : Nat) : SummOK Tryd.prog 72 2 (summOf (iter (f26.s0 K) K) f26.s0.inX f26.s0.des) f26.s0.b :=
  loop_ok mix tys_ok (f26.tabOK K) (h := f26.s0.h) (ho := f26.s0.ho) (shp := f26.s0.shp) (inX := f26.s0.inX) (des := f26.s0.des) (out := f26.s0.out) (inY := f26.s0.inY) (fuel := 400)
    (by intro st x h; unfold f26.s0.inX at h; split at h <;> simp at h; subst h; rfl)
    (by intro e st y h; unfold f26.s0.inY at h; split at h <;> simp at h <;> subst h <;> rfl)
    f26.s0.desOK (f26.s0.lok K) (f26.s0 K) (f26.s0.eq K) K
theorem f26.s2.eq (K : Nat) (rec : f26.Ty1 → Option (f26.Ty4)) (x : f26.Ty1) : f26.s2 K rec x = roundL (getA tys) (tabSp (f26.tab K)) 72 2 (f26.lp K) 400 f26.s2.b f26.s2.h f26.s2.ho f26.s2.shp f26.s2.inX f26.s2.inY rec x := by kernel_rfl
theorem f26.s2.lok (K : Nat) : LoopsOK Tryd.prog 72 2 (f26.lp K) f26.s2.b := loops_ok (by
  have h : loopsIn (f26.lp K) f26.s2.b = [] := by kernel_rfl
  rw [h]; simp)
theorem f26.s2.ok (K : Nat) : SummOK Tryd.prog 72 2 (summOf (iter (f26.s2 K) K) f26.s2.inX f26.s2.des) f26.s2.b :=
  loop_ok mix tys_ok (f26.tabOK K) (h := f26.s2.h) (ho := f26.s2.ho) (shp := f26.s2.shp) (inX := f26.s2.inX) (des := f26.s2.des) (out := f26.s2.out) (inY := f26.s2.inY) (fuel := 400)
    (by intro st x h; unfold f26.s2.inX at h; split at h <;> simp at h; subst h; rfl)
    (by intro e st y h; unfold f26.s2.inY at h; split at h <;> simp at h <;> subst h <;> rfl)
    f26.s2.desOK (f26.s2.lok K) (f26.s2 K) (f26.s2.eq K) K
theorem f26.s4.eq (K : Nat) (rec : f26.Ty0 → Option (f26.Ty5)) (x : f26.Ty0) : f26.s4 K rec x = roundL (getA tys) (tabSp (f26.tab K)) 72 2 (f26.lp K) 400 f26.s4.b f26.s4.h f26.s4.ho f26.s4.shp f26.s4.inX f26.s4.inY rec x := by kernel_rfl
theorem f26.s4.lok (K : Nat) : LoopsOK Tryd.prog 72 2 (f26.lp K) f26.s4.b := loops_ok (by
  have h : loopsIn (f26.lp K) f26.s4.b = [] := by kernel_rfl
  rw [h]; simp)
theorem f26.s4.ok (K : Nat) : SummOK Tryd.prog 72 2 (summOf (iter (f26.s4 K) K) f26.s4.inX f26.s4.des) f26.s4.b :=
  loop_ok mix tys_ok (f26.tabOK K) (h := f26.s4.h) (ho := f26.s4.ho) (shp := f26.s4.shp) (inX := f26.s4.inX) (des := f26.s4.des) (out := f26.s4.out) (inY := f26.s4.inY) (fuel := 400)
    (by intro st x h; unfold f26.s4.inX at h; split at h <;> simp at h; subst h; rfl)
    (by intro e st y h; unfold f26.s4.inY at h; split at h <;> simp at h <;> subst h <;> rfl)
    f26.s4.desOK (f26.s4.lok K) (f26.s4 K) (f26.s4.eq K) K
theorem f26.s6.eq (K : Nat) (rec : f26.Ty3 → Option (f26.Ty5)) (x : f26.Ty3) : f26.s6 K rec x = roundL (getA tys) (tabSp (f26.tab K)) 72 2 (f26.lp K) 400 f26.s6.b f26.s6.h f26.s6.ho f26.s6.shp f26.s6.inX f26.s6.inY rec x := by kernel_rfl
theorem f26.s6.lok (K : Nat) : LoopsOK Tryd.prog 72 2 (f26.lp K) f26.s6.b := loops_ok (by
  have h : loopsIn (f26.lp K) f26.s6.b = [] := by kernel_rfl
  rw [h]; simp)
theorem f26.s6.ok (K : Nat) : SummOK Tryd.prog 72 2 (summOf (iter (f26.s6 K) K) f26.s6.inX f26.s6.des) f26.s6.b :=
  loop_ok mix tys_ok (f26.tabOK K) (h := f26.s6.h) (ho := f26.s6.ho) (shp := f26.s6.shp) (inX := f26.s6.inX) (des := f26.s6.des) (out := f26.s6.out) (inY := f26.s6.inY) (fuel := 400)
    (by intro st x h; unfold f26.s6.inX at h; split at h <;> simp at h; subst h; rfl)
    (by intro e st y h; unfold f26.s6.inY at h; split at h <;> simp at h <;> subst h <;> rfl)
    f26.s6.desOK (f26.s6.lok K) (f26.s6 K) (f26.s6.eq K) K
theorem f26.loops (K : Nat) : LoopsOK Tryd.prog 72 2 (f26.lp K) f26.c := loops_ok (by
  have h : loopsIn (f26.lp K) f26.c = [(0, f26.s0.b), (2, f26.s2.b), (4, f26.s4.b), (6, f26.s6.b)] := by kernel_rfl
  rw [h]
  intro p hp
  simp only [List.mem_cons, List.not_mem_nil, or_false] at hp
  rcases hp with rfl | rfl | rfl | rfl
  · exact ⟨_, rfl, (f26.s0.ok K)⟩
  · exact ⟨_, rfl, (f26.s2.ok K)⟩
  · exact ⟨_, rfl, (f26.s4.ok K)⟩
  · exact ⟨_, rfl, (f26.s6.ok K)⟩)
def f26.T (K : Nat) (a0 : Nat) (m0_0 : Nat) (m0_1 : List Int) : Option (f26.Ty6) :=
  bif (Nat.ble (0 + a0) m0_0 && (fitB (a0 * 1))) then
    bif (Nat.ble a0 a0 && (fitB ((a0 + 1) * 1))) then
      (iter (f26.s0 K) K (a0, (a0 + 1), m0_0, m0_1, [0, 0, 0, 0, 0, 0, 0, 0, 0, 0, 0, 0, 0, 0, 0, 0, 0, 0, 0, 0, 0, 0, 0, 0, 0, 0, 0, 0, 0, 0, 0, 0], (a0 + 1), ((padT (subI m0_1 0 a0) a0) ++ [128]))).bind fun y6 =>
      (iter (f26.s2 K) K (y6.2.1, (IntKind.wrap .u64 (8 * (IntKind.wrap .u64 ((y6.1 : Nat) : Int)))), 0, y6.2.2.1, y6.2.2.2.1, y6.2.2.2.2.1, y6.2.2.2.2.2.1, y6.2.2.2.2.2.2)).bind fun y17 =>
      (f34.F K ()).bind fun y18 =>
      (iter (f26.s4 K) K (y17.1, 0, y17.2.1, y17.2.2.1, y17.2.2.2.1, y17.2.2.2.2.1, y17.2.2.2.2.2, [1779033703, 3144134277, 1013904242, 2773480762, 1359893119, 2600822924, 528734635, 1541459225], y18)).bind fun y26 =>
      (iter (f26.s6 K) K (0, y26.1, y26.2.1, y26.2.2.1, y26.2.2.2, [0, 0, 0, 0, 0, 0, 0, 0, 0, 0, 0, 0, 0, 0, 0, 0, 0, 0, 0, 0, 0, 0, 0, 0, 0, 0, 0, 0, 0, 0, 0, 0])).bind fun y39 =>
      some (y39.2.2.2, y39.1, y39.2.1)
    else
      none
  else
    none
def f26.F (K : Nat) (x : f26.Ty7) : Option (f26.Ty6) := f26.T K x.1 x.2.1 x.2.2
def f26.av (x : f26.Ty7) : List VV := [.vw true 0 0 x.1 1]
def f26.bl (x : f26.Ty7) : List (Nat × Blk) := [(0, ([.ints .u8 x.2.1 x.2.2], 0, .ro))]
def f26.inA : VS → Option (f26.Ty7)
  | ⟨[(0, .vw true 0 0 a0 1)], [(0, ([.ints .u8 m0_0 m0_1], 0, .ro))], 2⟩ => some (a0, m0_0, m0_1)
  | _ => none
def f26.o0 (y : f26.Ty6) : VS := ⟨[(0, .agg [.ints .u8 32 y.1])], [(0, ([.ints .u8 y.2.1 y.2.2], 0, .ro))], 2⟩
def f26.des : ∀ α : Type, (f26.Ty6) → (VS → Option α) → Option α := (dv1 f26.o0)
def f26.out : f26.Ty6 → VS := f26.o0
def f26.inR : VS → Option (f26.Ty6)
  | ⟨[(0, .agg [.ints .u8 32 y])], [(0, ([.ints .u8 z0_0 z0_1], 0, .ro))], 2⟩ => some (y, z0_0, z0_1)
  | _ => none
noncomputable def f26.E (K : Nat) : Entry := genE 2 f26.inA (f26.F K) f26.des
theorem f26.eq (K : Nat) (x : f26.Ty7) : f26.F K x = xrun (getA tys) (tabSp (f26.tab K)) Tryd.f26.ntmps 2 (f26.lp K) 400 f26.c ⟨initL 0 (f26.av x), f26.bl x, 2⟩ (contF (getA tys) 2 Tryd.f26.results.toList f26.inR) := by kernel_rfl
theorem f26.ok (K : Nat) : EntryOK Tryd.prog 26 (f26.E K) :=
  gen_ok mix tys_ok (f26.tabOK K) Tryd.func26 (by kernel_rfl : Tryd.f26.body = some f26.c) (by kernel_rfl) (f26.loops K) (av := f26.av) (bl := f26.bl) (out := f26.out) (fuel := 400)
    (by intro s x h; unfold f26.inA at h; split at h <;> simp at h; subst h; rfl) (fun _ => Nat.le_of_ble_eq_true rfl)
    (by intro s y h; unfold f26.inR at h; split at h <;> simp at h <;> subst h <;> rfl) (fun _ _ _ => rfl) (f26.eq K)
end Go.Proofs
