/- Plain laws: lemmas that hold with no condition but those that each states. -/
import Derived.Test.YtlncodfolaoilaaQ2
import Derived.Test.YtlncodfolaoilaaQ5
import Derived.Laws.MathBits
namespace Go.Proofs
open Go.VM
def f91.T (_K : Nat) (a0 : Int) (a1 : Int) : Option (Int) :=
  let v2 := bits .and .u64 (IntKind.wrap .u64 a1) 31
  bif decide (0 ≤ v2) then
    let v4 := IntKind.wrap .u64 (32 - v2)
    bif decide (0 ≤ v4) then
      some (bits .or .u32 (shiftI .shl .u32 a0 v2) (shiftI .shr .u32 a0 v4))
    else
      none
  else
    none
def f91.F (K : Nat) (x : Int × Int) : Option (Int) := f91.T K x.1 x.2
def f91.av (x : Int × Int) : List VV := [.int .u32 x.1, .int .i64 x.2]
def f91.bl (_x : Int × Int) : List (Nat × Blk) := []
def f91.inA : VS → Option (Int × Int)
  | ⟨[(0, .int .u32 a0), (1, .int .i64 a1)], [], 0⟩ => some (a0, a1)
  | _ => none
def f91.o0 (y : Int) : VS := ⟨[(0, .int .u32 y)], [], 0⟩
def f91.inR : VS → Option (Int)
  | ⟨[(0, .int .u32 y)], [], 0⟩ => some y
  | _ => none
noncomputable def f91.E (K : Nat) : Entry := genE 0 f91.inA (f91.F K) (dv1 f91.o0)
theorem f91.ok (K : Nat) : EntryOK Try.prog 91 (f91.E K) := gen_ok mix tys_ok (tab_ok ( tab_nil)) Try.func91 (c := bodyOf Try.f91) (by kernel_rfl) (by kernel_rfl) (loops_none (lp := lpNone) (by kernel_rfl)) (av := f91.av) (bl := f91.bl) (inR := f91.inR) (out := f91.o0) (fuel := 400)
  (by intro s x h; unfold f91.inA at h; split at h <;> simp at h; subst h; rfl) (fun _ => Nat.le_of_ble_eq_true rfl)
  (by intro s y h; unfold f91.inR at h; split at h <;> simp at h <;> subst h <;> rfl) (fun _ _ _ => rfl) (fun _ => by kernel_rfl)
end Go.Proofs

namespace Go.Proofs
open Go.VM
abbrev f78.Ty0 := Int × Int × Nat × Int × Int × Nat × List Int
abbrev f78.Ty1 := Int × Nat × Nat × List Int
abbrev f78.Ty2 := Int × Nat × List Int
noncomputable def f78.c : Code := bodyOf Try.f78
def f78.s0t (K : Nat) (rec : f78.Ty0 → Option (f78.Ty2)) (t0 : Int) (t5 : Int) (t8 : Nat) (t9 : Int) (t10 : Int) (b0_0 : Nat) (b0_1 : List Int) : Option (f78.Ty2) :=
  bif (decide (t10 < t9)) then
    bif decide (0 ≤ t10 ∧ t10 < ((t8 : Nat) : Int)) then
      let v3 := 0 + (Int.toNat t10)
      bif Nat.blt v3 b0_0 then
        (f91.F K (t0, (IntKind.wrap .i64 (0 - (List.getD b0_1 v3 0))))).bind fun y6 =>
        rec (t0, (bits .xor .u32 t5 y6), t8, t9, (IntKind.wrap .i64 (t10 + 1)), b0_0, b0_1)
      else
        none
    else
      none
  else
    some (t5, b0_0, b0_1)
def f78.s0 (K : Nat) (rec : f78.Ty0 → Option (f78.Ty2)) (x : f78.Ty0) : Option (f78.Ty2) := f78.s0t K rec x.1 x.2.1 x.2.2.1 x.2.2.2.1 x.2.2.2.2.1 x.2.2.2.2.2.1 x.2.2.2.2.2.2
noncomputable def f78.s0.b : Code := (findLoop 0 f78.c).getD .skip
def f78.s0.h : Hint := { lv := [0, 5, 8, 9, 10] }
def f78.s0.ho : Hint := { lv := [5] }
def f78.s0.shp (x : f78.Ty0) : VS := ⟨[(0, .int .u32 x.1), (5, .int .u32 x.2.1), (8, .vw true 0 0 x.2.2.1 1), (9, .int .i64 x.2.2.2.1), (10, .int .i64 x.2.2.2.2.1)], [(0, ([.ints .i64 x.2.2.2.2.2.1 x.2.2.2.2.2.2], 0, .ro))], 2⟩
def f78.s0.inX : VS → Option (f78.Ty0)
  | ⟨[(0, .int .u32 t0), (5, .int .u32 t5), (8, .vw true 0 0 t8 1), (9, .int .i64 t9), (10, .int .i64 t10)], [(0, ([.ints .i64 b0_0 b0_1], 0, .ro))], 2⟩ => some (t0, t5, t8, t9, t10, b0_0, b0_1)
  | _ => none
def f78.s0.o0 (y : f78.Ty2) : VS := ⟨[(5, .int .u32 y.1)], [(0, ([.ints .i64 y.2.1 y.2.2], 0, .ro))], 2⟩
def f78.s0.des : ∀ α : Type, (f78.Ty2) → (Ex → VS → Option α) → Option α := (des1 (.exit 0) f78.s0.o0)
def f78.s0.out : f78.Ty2 → Ex × VS := (fun y => (.exit 0, f78.s0.o0 y))
theorem f78.s0.desOK : ∀ α y (k : Ex → VS → Option α), f78.s0.des α y k = k (f78.s0.out y).1 (f78.s0.out y).2 := (fun _ _ _ => rfl)
def f78.s0.inY : Ex → VS → Option (f78.Ty2)
  | .exit 0, ⟨[(5, .int .u32 t5)], [(0, ([.ints .i64 b0_0 b0_1], 0, .ro))], 2⟩ => some (t5, b0_0, b0_1)
  | _, _ => none
def f78.lp (K : Nat) : Nat → Option (Hint × Summ) := tabLp [(0, f78.s0.h, summOf (iter (f78.s0 K) K) f78.s0.inX f78.s0.des)]
noncomputable def f78.tab (K : Nat) : List (Nat × Entry) := [(91, (f91.E K))]
theorem f78.tabOK (K : Nat) : SpecOK Try.prog (tabSp (f78.tab K)) := tab_ok ((tab_cons (f91.ok K) tab_nil))
theorem f78.s0.eq (K : Nat) (rec : f78.Ty0 → Option (f78.Ty2)) (x : f78.Ty0) : f78.s0 K rec x = roundL (getA tys) (tabSp (f78.tab K)) 22 2 (f78.lp K) 400 f78.s0.b f78.s0.h f78.s0.ho f78.s0.shp f78.s0.inX f78.s0.inY rec x := by kernel_rfl
theorem f78.s0.lok (K : Nat) : LoopsOK Try.prog 22 2 (f78.lp K) f78.s0.b := loops_ok (by
  have h : loopsIn (f78.lp K) f78.s0.b = [] := by kernel_rfl
  rw [h]; simp)
theorem f78.s0.ok (K : Nat) : SummOK Try.prog 22 2 (summOf (iter (f78.s0 K) K) f78.s0.inX f78.s0.des) f78.s0.b :=
  loop_ok mix tys_ok (f78.tabOK K) (h := f78.s0.h) (ho := f78.s0.ho) (shp := f78.s0.shp) (inX := f78.s0.inX) (des := f78.s0.des) (out := f78.s0.out) (inY := f78.s0.inY) (fuel := 400)
    (by intro st x h; unfold f78.s0.inX at h; split at h <;> simp at h; subst h; rfl)
    (by intro e st y h; unfold f78.s0.inY at h; split at h <;> simp at h <;> subst h <;> rfl)
    f78.s0.desOK (f78.s0.lok K) (f78.s0 K) (f78.s0.eq K) K
theorem f78.loops (K : Nat) : LoopsOK Try.prog 22 2 (f78.lp K) f78.c := loops_ok (by
  have h : loopsIn (f78.lp K) f78.c = [(0, f78.s0.b)] := by kernel_rfl
  rw [h]
  intro p hp
  simp only [List.mem_cons, List.not_mem_nil, or_false] at hp
  rcases hp with rfl
  · exact ⟨_, rfl, (f78.s0.ok K)⟩)
def f78.T (K : Nat) (a0 : Int) (a1 : Nat) (m0_0 : Nat) (m0_1 : List Int) : Option (f78.Ty2) :=
  (iter (f78.s0 K) K (a0, 0, a1, ((a1 : Nat) : Int), 0, m0_0, m0_1)).bind fun y9 =>
  some (y9.1, y9.2.1, y9.2.2)
def f78.F (K : Nat) (x : f78.Ty1) : Option (f78.Ty2) := f78.T K x.1 x.2.1 x.2.2.1 x.2.2.2
def f78.av (x : f78.Ty1) : List VV := [.int .u32 x.1, .vw true 0 0 x.2.1 1]
def f78.bl (x : f78.Ty1) : List (Nat × Blk) := [(0, ([.ints .i64 x.2.2.1 x.2.2.2], 0, .ro))]
def f78.inA : VS → Option (f78.Ty1)
  | ⟨[(0, .int .u32 a0), (1, .vw true 0 0 a1 1)], [(0, ([.ints .i64 m0_0 m0_1], 0, .ro))], 2⟩ => some (a0, a1, m0_0, m0_1)
  | _ => none
def f78.o0 (y : f78.Ty2) : VS := ⟨[(0, .int .u32 y.1)], [(0, ([.ints .i64 y.2.1 y.2.2], 0, .ro))], 2⟩
def f78.des : ∀ α : Type, (f78.Ty2) → (VS → Option α) → Option α := (dv1 f78.o0)
def f78.out : f78.Ty2 → VS := f78.o0
def f78.inR : VS → Option (f78.Ty2)
  | ⟨[(0, .int .u32 y)], [(0, ([.ints .i64 z0_0 z0_1], 0, .ro))], 2⟩ => some (y, z0_0, z0_1)
  | _ => none
noncomputable def f78.E (K : Nat) : Entry := genE 2 f78.inA (f78.F K) f78.des
theorem f78.eq (K : Nat) (x : f78.Ty1) : f78.F K x = xrun (getA tys) (tabSp (f78.tab K)) Try.f78.ntmps 2 (f78.lp K) 400 f78.c ⟨initL 0 (f78.av x), f78.bl x, 2⟩ (contF (getA tys) 2 Try.f78.results.toList f78.inR) := by kernel_rfl
theorem f78.ok (K : Nat) : EntryOK Try.prog 78 (f78.E K) :=
  gen_ok mix tys_ok (f78.tabOK K) Try.func78 (by kernel_rfl : Try.f78.body = some f78.c) (by kernel_rfl) (f78.loops K) (av := f78.av) (bl := f78.bl) (out := f78.out) (fuel := 400)
    (by intro s x h; unfold f78.inA at h; split at h <;> simp at h; subst h; rfl) (fun _ => Nat.le_of_ble_eq_true rfl)
    (by intro s y h; unfold f78.inR at h; split at h <;> simp at h <;> subst h <;> rfl) (fun _ _ _ => rfl) (f78.eq K)
end Go.Proofs

namespace Go.Proofs
open Go.VM
abbrev f83.Ty0 := Int × Int × Nat × List Int × List Int
abbrev f83.Ty1 := Int × Int × Nat × List Int
abbrev f83.Ty2 := Nat × Int × Nat × List Int
abbrev f83.Ty3 := Int × Nat × List Int
noncomputable def f83.c : Code := bodyOf Try.f83
def f83.s0t (_K : Nat) (rec : f83.Ty0 → Option (f83.Ty3)) (t4 : Int) (t23 : Int) (b0_0 : Nat) (b0_1 : List Int) (b2 : List Int) : Option (f83.Ty3) :=
  bif (decide (t23 < 8)) then
    bif decide (0 ≤ t23 ∧ t23 < 8) then
      rec ((IntKind.wrap .u64 ((IntKind.wrap .u64 (256 * t4)) + (IntKind.wrap .u64 (List.getD b2 (Int.toNat t23) 0)))), (IntKind.wrap .i64 (t23 + 1)), b0_0, b0_1, b2)
    else
      none
  else
    some (t4, b0_0, b0_1)
def f83.s0 (K : Nat) (rec : f83.Ty0 → Option (f83.Ty3)) (x : f83.Ty0) : Option (f83.Ty3) := f83.s0t K rec x.1 x.2.1 x.2.2.1 x.2.2.2.1 x.2.2.2.2
noncomputable def f83.s0.b : Code := (findLoop 0 f83.c).getD .skip
def f83.s0.h : Hint := { lv := [4, 6, 23] }
def f83.s0.ho : Hint := { lv := [4] }
def f83.s0.shp (x : f83.Ty0) : VS := ⟨[(4, .int .u64 x.1), (6, .ptr 2 0), (23, .int .i64 x.2.1)], [(0, ([.ints .u8 x.2.2.1 x.2.2.2.1], 0, .ro)), (2, ([.ints .u8 8 x.2.2.2.2], 151, .norm))], 3⟩
def f83.s0.inX : VS → Option (f83.Ty0)
  | ⟨[(4, .int .u64 t4), (6, .ptr 2 0), (23, .int .i64 t23)], [(0, ([.ints .u8 b0_0 b0_1], 0, .ro)), (2, ([.ints .u8 8 b2], 151, .norm))], 3⟩ => some (t4, t23, b0_0, b0_1, b2)
  | _ => none
def f83.s0.o0 (y : f83.Ty3) : VS := ⟨[(4, .int .u64 y.1)], [(0, ([.ints .u8 y.2.1 y.2.2], 0, .ro))], 2⟩
def f83.s0.des : ∀ α : Type, (f83.Ty3) → (Ex → VS → Option α) → Option α := (des1 (.exit 0) f83.s0.o0)
def f83.s0.out : f83.Ty3 → Ex × VS := (fun y => (.exit 0, f83.s0.o0 y))
theorem f83.s0.desOK : ∀ α y (k : Ex → VS → Option α), f83.s0.des α y k = k (f83.s0.out y).1 (f83.s0.out y).2 := (fun _ _ _ => rfl)
def f83.s0.inY : Ex → VS → Option (f83.Ty3)
  | .exit 0, ⟨[(4, .int .u64 t4)], [(0, ([.ints .u8 b0_0 b0_1], 0, .ro))], 2⟩ => some (t4, b0_0, b0_1)
  | _, _ => none
def f83.lp (K : Nat) : Nat → Option (Hint × Summ) := tabLp [(0, f83.s0.h, summOf (iter (f83.s0 K) K) f83.s0.inX f83.s0.des)]
noncomputable def f83.tab (_K : Nat) : List (Nat × Entry) := []
theorem f83.tabOK (K : Nat) : SpecOK Try.prog (tabSp (f83.tab K)) := tab_ok ( tab_nil)
theorem f83.s0.eq (K : Nat) (rec : f83.Ty0 → Option (f83.Ty3)) (x : f83.Ty0) : f83.s0 K rec x = roundL (getA tys) (tabSp (f83.tab K)) 35 2 (f83.lp K) 400 f83.s0.b f83.s0.h f83.s0.ho f83.s0.shp f83.s0.inX f83.s0.inY rec x := by kernel_rfl
theorem f83.s0.lok (K : Nat) : LoopsOK Try.prog 35 2 (f83.lp K) f83.s0.b := loops_ok (by
  have h : loopsIn (f83.lp K) f83.s0.b = [] := by kernel_rfl
  rw [h]; simp)
theorem f83.s0.ok (K : Nat) : SummOK Try.prog 35 2 (summOf (iter (f83.s0 K) K) f83.s0.inX f83.s0.des) f83.s0.b :=
  loop_ok mix tys_ok (f83.tabOK K) (h := f83.s0.h) (ho := f83.s0.ho) (shp := f83.s0.shp) (inX := f83.s0.inX) (des := f83.s0.des) (out := f83.s0.out) (inY := f83.s0.inY) (fuel := 400)
    (by intro st x h; unfold f83.s0.inX at h; split at h <;> simp at h; subst h; rfl)
    (by intro e st y h; unfold f83.s0.inY at h; split at h <;> simp at h <;> subst h <;> rfl)
    f83.s0.desOK (f83.s0.lok K) (f83.s0 K) (f83.s0.eq K) K
theorem f83.loops (K : Nat) : LoopsOK Try.prog 35 2 (f83.lp K) f83.c := loops_ok (by
  have h : loopsIn (f83.lp K) f83.c = [(0, f83.s0.b)] := by kernel_rfl
  rw [h]
  intro p hp
  simp only [List.mem_cons, List.not_mem_nil, or_false] at hp
  rcases hp with rfl
  · exact ⟨_, rfl, (f83.s0.ok K)⟩)
def f83.T (K : Nat) (a0 : Nat) (a1 : Int) (m0_0 : Nat) (m0_1 : List Int) : Option (f83.Ty1) :=
  bif (decide (a1 < 0)) then
    some (0, 1, m0_0, m0_1)
  else
    bif (decide (a1 > 8)) then
      some (0, 1, m0_0, m0_1)
    else
      bif (decide (((a0 : Nat) : Int) < a1)) then
        some (0, 5, m0_0, m0_1)
      else
        let v5 := IntKind.wrap .i64 (8 - a1)
        bif decide (0 ≤ v5 ∧ v5 ≤ 8) then
          let v6 := bif Nat.beq 8 (Int.toNat v5) then 0 else 0 + (Int.toNat v5)
          let v7 := 8 - (Int.toNat v5)
          bif ((Nat.ble (0 + a0) m0_0 && (Nat.ble (v6 + v7) 8)) && (Nat.beq a0 a0)) then
            (iter (f83.s0 K) K (0, 0, m0_0, m0_1, (spl [0, 0, 0, 0, 0, 0, 0, 0] v6 (Nat.min a0 v7) (subI m0_1 0 a0)))).bind fun y18 =>
            some (y18.1, 0, y18.2.1, y18.2.2)
          else
            none
        else
          none
def f83.F (K : Nat) (x : f83.Ty2) : Option (f83.Ty1) := f83.T K x.1 x.2.1 x.2.2.1 x.2.2.2
def f83.av (x : f83.Ty2) : List VV := [.vw true 0 0 x.1 1, .int .i64 x.2.1]
def f83.bl (x : f83.Ty2) : List (Nat × Blk) := [(0, ([.ints .u8 x.2.2.1 x.2.2.2], 0, .ro))]
def f83.inA : VS → Option (f83.Ty2)
  | ⟨[(0, .vw true 0 0 a0 1), (1, .int .i64 a1)], [(0, ([.ints .u8 m0_0 m0_1], 0, .ro))], 2⟩ => some (a0, a1, m0_0, m0_1)
  | _ => none
def f83.o0 (y : f83.Ty1) : VS := ⟨[(0, .tup [.int .u64 y.1, .int .i64 y.2.1])], [(0, ([.ints .u8 y.2.2.1 y.2.2.2], 0, .ro))], 2⟩
def f83.des : ∀ α : Type, (f83.Ty1) → (VS → Option α) → Option α := (dv1 f83.o0)
def f83.out : f83.Ty1 → VS := f83.o0
def f83.inR : VS → Option (f83.Ty1)
  | ⟨[(0, .tup [.int .u64 y_0, .int .i64 y_1])], [(0, ([.ints .u8 z0_0 z0_1], 0, .ro))], 2⟩ => some (y_0, y_1, z0_0, z0_1)
  | _ => none
noncomputable def f83.E (K : Nat) : Entry := genE 2 f83.inA (f83.F K) f83.des
theorem f83.eq (K : Nat) (x : f83.Ty2) : f83.F K x = xrun (getA tys) (tabSp (f83.tab K)) Try.f83.ntmps 2 (f83.lp K) 400 f83.c ⟨initL 0 (f83.av x), f83.bl x, 2⟩ (contF (getA tys) 2 Try.f83.results.toList f83.inR) := by kernel_rfl
theorem f83.ok (K : Nat) : EntryOK Try.prog 83 (f83.E K) :=
  gen_ok mix tys_ok (f83.tabOK K) Try.func83 (by kernel_rfl : Try.f83.body = some f83.c) (by kernel_rfl) (f83.loops K) (av := f83.av) (bl := f83.bl) (out := f83.out) (fuel := 400)
    (by intro s x h; unfold f83.inA at h; split at h <;> simp at h; subst h; rfl) (fun _ => Nat.le_of_ble_eq_true rfl)
    (by intro s y h; unfold f83.inR at h; split at h <;> simp at h <;> subst h <;> rfl) (fun _ _ _ => rfl) (f83.eq K)
end Go.Proofs

namespace Go.Proofs
open Go.VM
abbrev f74.Ty0 := Nat × Int × Int × Nat × List Int × List Int
abbrev f74.Ty1 := Int × Nat × List Int × List Int
abbrev f74.Ty2 := List Int × Int × Nat × List Int
abbrev f74.Ty3 := Nat × Nat × List Int
noncomputable def f74.c : Code := bodyOf Try.f74
def f74.s0t (K : Nat) (rec : f74.Ty0 → Option ((f74.Ty1) ⊕ (f74.Ty1))) (t0 : Nat) (t3 : Int) (t6 : Int) (b0_0 : Nat) (b0_1 : List Int) (b2 : List Int) : Option ((f74.Ty1) ⊕ (f74.Ty1)) :=
  bif (decide (t6 < 4)) then
    bif (decide (((t0 : Nat) : Int) < 32)) then
      some (.inl (5, b0_0, b0_1, [0, 0, 0, 0]))
    else
      let v6 := IntKind.wrap .i64 (32 - (IntKind.wrap .i64 (8 * (IntKind.wrap .i64 (t6 + 1)))))
      let v7 := IntKind.wrap .i64 (v6 + 8)
      bif (decide (0 ≤ v7 ∧ v7 ≤ ((t0 : Nat) : Int)) && (decide (0 ≤ v6 ∧ v6 ≤ ((Int.toNat v7 : Nat) : Int)))) then
        let v8 := 0 + (Int.toNat v6)
        let v9 := (Int.toNat v7) - (Int.toNat v6)
        bif ((Nat.ble (v8 + v9) b0_0 && true) && true) then
          (f83.F K (v9, 8, v9, (subI b0_1 v8 v9))).bind fun y10 =>
          bif decide (0 ≤ t6 ∧ t6 < 4) then
            rec (t0, y10.2.1, (IntKind.wrap .i64 (t6 + 1)), b0_0, b0_1, (setD b2 (Int.toNat t6) y10.1))
          else
            none
        else
          none
      else
        none
  else
    some (.inr (t3, b0_0, b0_1, b2))
def f74.s0 (K : Nat) (rec : f74.Ty0 → Option ((f74.Ty1) ⊕ (f74.Ty1))) (x : f74.Ty0) : Option ((f74.Ty1) ⊕ (f74.Ty1)) := f74.s0t K rec x.1 x.2.1 x.2.2.1 x.2.2.2.1 x.2.2.2.2.1 x.2.2.2.2.2
noncomputable def f74.s0.b : Code := (findLoop 0 f74.c).getD .skip
def f74.s0.h : Hint := { lv := [0, 2, 3, 6] }
def f74.s0.ho : Hint := { lv := [2, 3] }
def f74.s0.shp (x : f74.Ty0) : VS := ⟨[(0, .vw true 0 0 x.1 1), (2, .ptr 2 0), (3, .int .i64 x.2.1), (6, .int .i64 x.2.2.1)], [(0, ([.ints .u8 x.2.2.2.1 x.2.2.2.2.1], 0, .ro)), (2, ([.ints .u64 4 x.2.2.2.2.2], 67, .norm))], 3⟩
def f74.s0.inX : VS → Option (f74.Ty0)
  | ⟨[(0, .vw true 0 0 t0 1), (2, .ptr 2 0), (3, .int .i64 t3), (6, .int .i64 t6)], [(0, ([.ints .u8 b0_0 b0_1], 0, .ro)), (2, ([.ints .u64 4 b2], 67, .norm))], 3⟩ => some (t0, t3, t6, b0_0, b0_1, b2)
  | _ => none
def f74.s0.o0 (y : f74.Ty1) : VS := ⟨[(2, .ptr 2 0), (3, .int .i64 y.1)], [(0, ([.ints .u8 y.2.1 y.2.2.1], 0, .ro)), (2, ([.ints .u64 4 y.2.2.2], 67, .norm))], 3⟩
def f74.s0.o1 (y : f74.Ty1) : VS := ⟨[(2, .ptr 2 0), (3, .int .i64 y.1)], [(0, ([.ints .u8 y.2.1 y.2.2.1], 0, .ro)), (2, ([.ints .u64 4 y.2.2.2], 67, .norm))], 3⟩
def f74.s0.des : ∀ α : Type, ((f74.Ty1) ⊕ (f74.Ty1)) → (Ex → VS → Option α) → Option α := (desA (des1 (.ret) f74.s0.o0) (des1 (.exit 0) f74.s0.o1))
def f74.s0.out : (f74.Ty1) ⊕ (f74.Ty1) → Ex × VS := (alt (fun y => (.ret, f74.s0.o0 y)) (fun y => (.exit 0, f74.s0.o1 y)))
theorem f74.s0.desOK : ∀ α y (k : Ex → VS → Option α), f74.s0.des α y k = k (f74.s0.out y).1 (f74.s0.out y).2 := (desA_ok (fun _ _ _ => rfl) (fun _ _ _ => rfl))
def f74.s0.inY : Ex → VS → Option ((f74.Ty1) ⊕ (f74.Ty1))
  | .ret, ⟨[(2, .ptr 2 0), (3, .int .i64 t3)], [(0, ([.ints .u8 b0_0 b0_1], 0, .ro)), (2, ([.ints .u64 4 b2], 67, .norm))], 3⟩ => some (.inl (t3, b0_0, b0_1, b2))
  | .exit 0, ⟨[(2, .ptr 2 0), (3, .int .i64 t3)], [(0, ([.ints .u8 b0_0 b0_1], 0, .ro)), (2, ([.ints .u64 4 b2], 67, .norm))], 3⟩ => some (.inr (t3, b0_0, b0_1, b2))
  | _, _ => none
def f74.lp (K : Nat) : Nat → Option (Hint × Summ) := tabLp [(0, f74.s0.h, summOf (iter (f74.s0 K) K) f74.s0.inX f74.s0.des)]
noncomputable def f74.tab (K : Nat) : List (Nat × Entry) := [(83, (viewE [(0, .u8)] (f83.E K)))]
theorem f74.tabOK (K : Nat) : SpecOK Try.prog (tabSp (f74.tab K)) := tab_ok ((tab_cons (view_ok (f83.ok K)) tab_nil))
theorem f74.s0.eq (K : Nat) (rec : f74.Ty0 → Option ((f74.Ty1) ⊕ (f74.Ty1))) (x : f74.Ty0) : f74.s0 K rec x = roundL (getA tys) (tabSp (f74.tab K)) 31 2 (f74.lp K) 400 f74.s0.b f74.s0.h f74.s0.ho f74.s0.shp f74.s0.inX f74.s0.inY rec x := by kernel_rfl
theorem f74.s0.lok (K : Nat) : LoopsOK Try.prog 31 2 (f74.lp K) f74.s0.b := loops_ok (by
  have h : loopsIn (f74.lp K) f74.s0.b = [] := by kernel_rfl
  rw [h]; simp)
theorem f74.s0.ok (K : Nat) : SummOK Try.prog 31 2 (summOf (iter (f74.s0 K) K) f74.s0.inX f74.s0.des) f74.s0.b :=
  loop_ok mix tys_ok (f74.tabOK K) (h := f74.s0.h) (ho := f74.s0.ho) (shp := f74.s0.shp) (inX := f74.s0.inX) (des := f74.s0.des) (out := f74.s0.out) (inY := f74.s0.inY) (fuel := 400)
    (by intro st x h; unfold f74.s0.inX at h; split at h <;> simp at h; subst h; rfl)
    (by intro e st y h; unfold f74.s0.inY at h; split at h <;> simp at h <;> subst h <;> rfl)
    f74.s0.desOK (f74.s0.lok K) (f74.s0 K) (f74.s0.eq K) K
theorem f74.loops (K : Nat) : LoopsOK Try.prog 31 2 (f74.lp K) f74.c := loops_ok (by
  have h : loopsIn (f74.lp K) f74.c = [(0, f74.s0.b)] := by kernel_rfl
  rw [h]
  intro p hp
  simp only [List.mem_cons, List.not_mem_nil, or_false] at hp
  rcases hp with rfl
  · exact ⟨_, rfl, (f74.s0.ok K)⟩)
def f74.T (K : Nat) (a0 : Nat) (m0_0 : Nat) (m0_1 : List Int) : Option (f74.Ty2) :=
  (iter (f74.s0 K) K (a0, 0, 0, m0_0, m0_1, [0, 0, 0, 0])).bind fun y14 =>
  alt (fun y15 =>
    some (y15.2.2.2, y15.1, y15.2.1, y15.2.2.1)) (fun y16 =>
    some (y16.2.2.2, y16.1, y16.2.1, y16.2.2.1)) y14
def f74.F (K : Nat) (x : f74.Ty3) : Option (f74.Ty2) := f74.T K x.1 x.2.1 x.2.2
def f74.av (x : f74.Ty3) : List VV := [.vw true 0 0 x.1 1]
def f74.bl (x : f74.Ty3) : List (Nat × Blk) := [(0, ([.ints .u8 x.2.1 x.2.2], 0, .ro))]
def f74.inA : VS → Option (f74.Ty3)
  | ⟨[(0, .vw true 0 0 a0 1)], [(0, ([.ints .u8 m0_0 m0_1], 0, .ro))], 2⟩ => some (a0, m0_0, m0_1)
  | _ => none
def f74.o0 (y : f74.Ty2) : VS := ⟨[(0, .tup [.agg [.ints .u64 4 y.1], .int .i64 y.2.1])], [(0, ([.ints .u8 y.2.2.1 y.2.2.2], 0, .ro))], 2⟩
def f74.des : ∀ α : Type, (f74.Ty2) → (VS → Option α) → Option α := (dv1 f74.o0)
def f74.out : f74.Ty2 → VS := f74.o0
def f74.inR : VS → Option (f74.Ty2)
  | ⟨[(0, .tup [.agg [.ints .u64 4 y_0], .int .i64 y_1])], [(0, ([.ints .u8 z0_0 z0_1], 0, .ro))], 2⟩ => some (y_0, y_1, z0_0, z0_1)
  | _ => none
noncomputable def f74.E (K : Nat) : Entry := genE 2 f74.inA (f74.F K) f74.des
theorem f74.eq (K : Nat) (x : f74.Ty3) : f74.F K x = xrun (getA tys) (tabSp (f74.tab K)) Try.f74.ntmps 2 (f74.lp K) 400 f74.c ⟨initL 0 (f74.av x), f74.bl x, 2⟩ (contF (getA tys) 2 Try.f74.results.toList f74.inR) := by kernel_rfl
theorem f74.ok (K : Nat) : EntryOK Try.prog 74 (f74.E K) :=
  gen_ok mix tys_ok (f74.tabOK K) Try.func74 (by kernel_rfl : Try.f74.body = some f74.c) (by kernel_rfl) (f74.loops K) (av := f74.av) (bl := f74.bl) (out := f74.out) (fuel := 400)
    (by intro s x h; unfold f74.inA at h; split at h <;> simp at h; subst h; rfl) (fun _ => Nat.le_of_ble_eq_true rfl)
    (by intro s y h; unfold f74.inR at h; split at h <;> simp at h <;> subst h <;> rfl) (fun _ _ _ => rfl) (f74.eq K)
end Go.Proofs

namespace Go.Proofs
open Go.VM
abbrev f41.Ty0 := Nat × Nat × Nat × List Int × Nat × List Int
abbrev f41.Ty1 := Nat × Int × Int × Nat × List Int
def f41.T (K : Nat) (a0 : Nat) (a1 : Int) (a2 : Int) (m0_0 : Nat) (m0_1 : List Int) : Option (f41.Ty0) :=
  bif ((Nat.ble (0 + a0) m0_0 && true) && true) then
    (f63.F K (a0, (maxE 0 (minE 8 a2)), 1, a0, (subI m0_1 0 a0), 1, [a1])).bind fun y2 =>
    some (y2.1, y2.2.1, m0_0, m0_1, y2.2.2.2.2.2.2.1, y2.2.2.2.2.2.2.2)
  else
    none
def f41.F (K : Nat) (x : f41.Ty1) : Option (f41.Ty0) := f41.T K x.1 x.2.1 x.2.2.1 x.2.2.2.1 x.2.2.2.2
def f41.av (x : f41.Ty1) : List VV := [.vw true 0 0 x.1 1, .int .u64 x.2.1, .int .i64 x.2.2.1]
def f41.bl (x : f41.Ty1) : List (Nat × Blk) := [(0, ([.ints .u8 x.2.2.2.1 x.2.2.2.2], 0, .ro))]
def f41.inA : VS → Option (f41.Ty1)
  | ⟨[(0, .vw true 0 0 a0 1), (1, .int .u64 a1), (2, .int .i64 a2)], [(0, ([.ints .u8 m0_0 m0_1], 0, .ro))], 2⟩ => some (a0, a1, a2, m0_0, m0_1)
  | _ => none
def f41.o0 (y : f41.Ty0) : VS := ⟨[(0, .sl 2 0 y.1 y.2.1)], [(0, ([.ints .u8 y.2.2.1 y.2.2.2.1], 0, .ro)), (2, ([.ints .u8 y.2.2.2.2.1 y.2.2.2.2.2], 5, .norm))], 3⟩
def f41.inR : VS → Option (f41.Ty0)
  | ⟨[(0, .sl 2 0 y_0 y_1)], [(0, ([.ints .u8 z0_0 z0_1], 0, .ro)), (2, ([.ints .u8 z2_0 z2_1], 5, .norm))], 3⟩ => some (y_0, y_1, z0_0, z0_1, z2_0, z2_1)
  | _ => none
noncomputable def f41.E (K : Nat) : Entry := genE 2 f41.inA (f41.F K) (dv1 f41.o0)
theorem f41.ok (K : Nat) : EntryOK Try.prog 41 (f41.E K) := gen_ok mix tys_ok (sp := tabSp [(63, (viewE [(0, .u8), (2, .u64)] (f63.E K)))]) (tab_ok ((tab_cons (view_ok (f63.ok K)) tab_nil))) Try.func41 (c := bodyOf Try.f41) (by kernel_rfl) (by kernel_rfl) (loops_none (lp := lpNone) (by kernel_rfl)) (av := f41.av) (bl := f41.bl) (inR := f41.inR) (out := f41.o0) (fuel := 400)
  (by intro s x h; unfold f41.inA at h; split at h <;> simp at h; subst h; rfl) (fun _ => Nat.le_of_ble_eq_true rfl)
  (by intro s y h; unfold f41.inR at h; split at h <;> simp at h <;> subst h <;> rfl) (fun _ _ _ => rfl) (fun _ => by kernel_rfl)
end Go.Proofs

namespace Go.Proofs
open Go.VM
theorem octets_pad {l : List Int} (h : octets l) (n : Nat) : octets (padT l n) := by
  intro x hx
  simp only [padT, List.mem_map, List.mem_range] at hx
  obtain ⟨i, _, rfl⟩ := hx
  rw [List.getD_eq_getElem?_getD]
  cases e : l[i]? with
  | none => simp
  | some y => exact h y (List.mem_of_getElem? e)
theorem octets_spl {l m : List Int} (h : octets l) (h2 : octets m) (i n : Nat) : octets (spl l i n m) := by
  rw [spl]
  exact octets_append (octets_append (octets_pad h _) (octets_pad h2 _)) fun x hx => h x (List.mem_of_mem_drop hx)
end Go.Proofs

namespace Go.Proofs
open Go.VM
abbrev f76.Ty0 := List Int × Int × Int × List Int × List Int × Int
abbrev f76.Ty1 := List Int × Int × Int × List Int
def f76.T (_K : Nat) (m0_0 : List Int) (m0_1 : Int) (m0_2 : Int) (m1 : List Int) : Option (f76.Ty0) :=
  some (m0_0, m0_1, m0_2, m1, [0, 0, 0, 0, 0, 0, 0, 0, 0, 0, 0, 0, 0, 0, 0, 0], 0)
def f76.F (K : Nat) (x : f76.Ty1) : Option (f76.Ty0) := f76.T K x.1 x.2.1 x.2.2.1 x.2.2.2
def f76.av (_x : f76.Ty1) : List VV := [.ptr 0 1]
def f76.bl (x : f76.Ty1) : List (Nat × Blk) := [(0, ([.ptr 1 0, .ints .u8 64 x.1, .int .i64 x.2.1, .int .u64 x.2.2.1], 30, .norm)), (1, ([.ints .u32 8 x.2.2.2], 110, .norm))]
def f76.inA : VS → Option (f76.Ty1)
  | ⟨[(0, .ptr 0 1)], [(0, ([.ptr 1 0, .ints .u8 64 m0_0, .int .i64 m0_1, .int .u64 m0_2], 30, .norm)), (1, ([.ints .u32 8 m1], 110, .norm))], 2⟩ => some (m0_0, m0_1, m0_2, m1)
  | _ => none
def f76.o0 (y : f76.Ty0) : VS := ⟨[(0, .fn 90 [.ptr 2 0, .ptr 3 0, .ptr 4 0])], [(0, ([.ptr 1 0, .ints .u8 64 y.1, .int .i64 y.2.1, .int .u64 y.2.2.1], 30, .norm)), (1, ([.ints .u32 8 y.2.2.2.1], 110, .norm)), (2, ([.ints .u32 16 y.2.2.2.2.1], 146, .norm)), (3, ([.int .i64 y.2.2.2.2.2], 3, .norm)), (4, ([.ptr 0 1], 112, .norm))], 5⟩
def f76.inR : VS → Option (f76.Ty0)
  | ⟨[(0, .fn 90 [.ptr 2 0, .ptr 3 0, .ptr 4 0])], [(0, ([.ptr 1 0, .ints .u8 64 z0_0, .int .i64 z0_1, .int .u64 z0_2], 30, .norm)), (1, ([.ints .u32 8 z1], 110, .norm)), (2, ([.ints .u32 16 z2], 146, .norm)), (3, ([.int .i64 z3], 3, .norm)), (4, ([.ptr 0 1], 112, .norm))], 5⟩ => some (z0_0, z0_1, z0_2, z1, z2, z3)
  | _ => none
noncomputable def f76.E (K : Nat) : Entry := genE 2 f76.inA (f76.F K) (dv1 f76.o0)
theorem f76.ok (K : Nat) : EntryOK Try.prog 76 (f76.E K) := gen_ok mix tys_ok (tab_ok ( tab_nil)) Try.func76 (c := bodyOf Try.f76) (by kernel_rfl) (by kernel_rfl) (loops_none (lp := lpNone) (by kernel_rfl)) (av := f76.av) (bl := f76.bl) (inR := f76.inR) (out := f76.o0) (fuel := 400)
  (by intro s x h; unfold f76.inA at h; split at h <;> simp at h; subst h; rfl) (fun _ => Nat.le_of_ble_eq_true rfl)
  (by intro s y h; unfold f76.inR at h; split at h <;> simp at h <;> subst h <;> rfl) (fun _ _ _ => rfl) (fun _ => by kernel_rfl)
end Go.Proofs

namespace Go.Proofs
open Go.VM
def f77.T (_K : Nat)  : Option (List Int) :=
  some ([1116352408, 1899447441, 3049323471, 3921009573, 961987163, 1508970993, 2453635748, 2870763221, 3624381080, 310598401, 607225278, 1426881987, 1925078388, 2162078206, 2614888103, 3248222580, 3835390401, 4022224774, 264347078, 604807628, 770255983, 1249150122, 1555081692, 1996064986, 2554220882, 2821834349, 2952996808, 3210313671, 3336571891, 3584528711, 113926993, 338241895, 666307205, 773529912, 1294757372, 1396182291, 1695183700, 1986661051, 2177026350, 2456956037, 2730485921, 2820302411, 3259730800, 3345764771, 3516065817, 3600352804, 4094571909, 275423344, 430227734, 506948616, 659060556, 883997877, 958139571, 1322822218, 1537002063, 1747873779, 1955562222, 2024104815, 2227730452, 2361852424, 2428436474, 2756734187, 3204031479, 3329325298])
def f77.F (K : Nat) (_x : Unit) : Option (List Int) := f77.T K
def f77.av (_x : Unit) : List VV := []
def f77.bl (_x : Unit) : List (Nat × Blk) := []
def f77.inA : VS → Option (Unit)
  | ⟨[], [], 0⟩ => some ()
  | _ => none
def f77.o0 (y : List Int) : VS := ⟨[(0, .agg [.ints .u32 64 y])], [], 0⟩
def f77.inR : VS → Option (List Int)
  | ⟨[(0, .agg [.ints .u32 64 y])], [], 0⟩ => some y
  | _ => none
noncomputable def f77.E (K : Nat) : Entry := genE 0 f77.inA (f77.F K) (dv1 f77.o0)
theorem f77.ok (K : Nat) : EntryOK Try.prog 77 (f77.E K) := gen_ok mix tys_ok (tab_ok ( tab_nil)) Try.func77 (c := bodyOf Try.f77) (by kernel_rfl) (by kernel_rfl) (loops_none (lp := lpNone) (by kernel_rfl)) (av := f77.av) (bl := f77.bl) (inR := f77.inR) (out := f77.o0) (fuel := 400)
  (by intro s x h; unfold f77.inA at h; split at h <;> simp at h; rfl) (fun _ => Nat.le_of_ble_eq_true rfl)
  (by intro s y h; unfold f77.inR at h; split at h <;> simp at h <;> subst h <;> rfl) (fun _ _ _ => rfl) (fun _ => by kernel_rfl)
end Go.Proofs

namespace Go.Proofs
open Go.VM
abbrev f90.Ty0 := Int × List Int × Int × List Int × Int × Int × List Int
abbrev f90.Ty1 := List Int × Int × List Int × Int × Int × List Int
def f90.T (K : Nat) (m0 : List Int) (m1 : Int) (m3_0 : List Int) (m3_1 : Int) (m3_2 : Int) (m4 : List Int) : Option (f90.Ty0) :=
  let v1 := Int.tmod m1 16
  bif decide (0 ≤ v1 ∧ v1 < 16) then
    let v2 := Int.toNat v1
    bif (decide (m1 < 16)) then
      let v4 := IntKind.wrap .i64 (4 * m1)
      bif decide (0 ≤ v4 ∧ v4 ≤ 64) then
        let v5 := bif Nat.beq 64 (Int.toNat v4) then 0 else (Int.toNat v4)
        let v6 := 64 - (Int.toNat v4)
        bif ((Nat.ble (v5 + v6) 64 && (Nat.ble v6 (64 - (Int.toNat v4)))) && true) then
          (f83.F K (v6, 4, v6, (subI m3_0 v5 v6))).bind fun y8 =>
          let v10 := setD m0 v2 (IntKind.wrap .u32 y8.1)
          some ((List.getD v10 v2 0), v10, (IntKind.wrap .i64 (m1 + 1)), m3_0, m3_1, m3_2, m4)
        else
          none
      else
        none
    else
      let v14 := Int.tmod (IntKind.wrap .i64 (m1 + 1)) 16
      bif decide (0 ≤ v14 ∧ v14 < 16) then
        let v16 := List.getD m0 (Int.toNat v14) 0
        let v18 := Int.tmod (IntKind.wrap .i64 (m1 + 14)) 16
        bif decide (0 ≤ v18 ∧ v18 < 16) then
          let v20 := List.getD m0 (Int.toNat v18) 0
          (f78.F K (v16, 2, 2, [7, 18])).bind fun y22 =>
          let v26 := setD m0 v2 (IntKind.wrap .u32 ((List.getD m0 v2 0) + (bits .xor .u32 y22.1 (Int.fdiv v16 (2 ^ 3)))))
          (f78.F K (v20, 2, 2, [17, 19])).bind fun y28 =>
          let v32 := setD v26 v2 (IntKind.wrap .u32 ((List.getD v26 v2 0) + (bits .xor .u32 y28.1 (Int.fdiv v20 (2 ^ 10)))))
          let v35 := Int.tmod (IntKind.wrap .i64 (m1 + 9)) 16
          bif decide (0 ≤ v35 ∧ v35 < 16) then
            let v39 := setD v32 v2 (IntKind.wrap .u32 ((List.getD v32 v2 0) + (List.getD v32 (Int.toNat v35) 0)))
            some ((List.getD v39 v2 0), v39, (IntKind.wrap .i64 (m1 + 1)), m3_0, m3_1, m3_2, m4)
          else
            none
        else
          none
      else
        none
  else
    none
def f90.F (K : Nat) (x : f90.Ty1) : Option (f90.Ty0) := f90.T K x.1 x.2.1 x.2.2.1 x.2.2.2.1 x.2.2.2.2.1 x.2.2.2.2.2
def f90.av (_x : f90.Ty1) : List VV := [.ptr 0 0, .ptr 1 0, .ptr 2 0]
def f90.bl (x : f90.Ty1) : List (Nat × Blk) := [(0, ([.ints .u32 16 x.1], 146, .norm)), (1, ([.int .i64 x.2.1], 3, .norm)), (2, ([.ptr 3 1], 112, .norm)), (3, ([.ptr 4 0, .ints .u8 64 x.2.2.1, .int .i64 x.2.2.2.1, .int .u64 x.2.2.2.2.1], 30, .norm)), (4, ([.ints .u32 8 x.2.2.2.2.2], 110, .norm))]
def f90.inA : VS → Option (f90.Ty1)
  | ⟨[(0, .ptr 0 0), (1, .ptr 1 0), (2, .ptr 2 0)], [(0, ([.ints .u32 16 m0], 146, .norm)), (1, ([.int .i64 m1], 3, .norm)), (2, ([.ptr 3 1], 112, .norm)), (3, ([.ptr 4 0, .ints .u8 64 m3_0, .int .i64 m3_1, .int .u64 m3_2], 30, .norm)), (4, ([.ints .u32 8 m4], 110, .norm))], 5⟩ => some (m0, m1, m3_0, m3_1, m3_2, m4)
  | _ => none
def f90.o0 (y : f90.Ty0) : VS := ⟨[(0, .int .u32 y.1)], [(0, ([.ints .u32 16 y.2.1], 146, .norm)), (1, ([.int .i64 y.2.2.1], 3, .norm)), (2, ([.ptr 3 1], 112, .norm)), (3, ([.ptr 4 0, .ints .u8 64 y.2.2.2.1, .int .i64 y.2.2.2.2.1, .int .u64 y.2.2.2.2.2.1], 30, .norm)), (4, ([.ints .u32 8 y.2.2.2.2.2.2], 110, .norm))], 5⟩
def f90.inR : VS → Option (f90.Ty0)
  | ⟨[(0, .int .u32 y)], [(0, ([.ints .u32 16 z0], 146, .norm)), (1, ([.int .i64 z1], 3, .norm)), (2, ([.ptr 3 1], 112, .norm)), (3, ([.ptr 4 0, .ints .u8 64 z3_0, .int .i64 z3_1, .int .u64 z3_2], 30, .norm)), (4, ([.ints .u32 8 z4], 110, .norm))], 5⟩ => some (y, z0, z1, z3_0, z3_1, z3_2, z4)
  | _ => none
noncomputable def f90.E (K : Nat) : Entry := genE 5 f90.inA (f90.F K) (dv1 f90.o0)
theorem f90.ok (K : Nat) : EntryOK Try.prog 90 (f90.E K) := gen_ok mix tys_ok (sp := tabSp [(83, (viewE [(0, .u8)] (f83.E K))), (78, (viewE [(1, .i64)] (f78.E K)))]) (tab_ok ((tab_cons (view_ok (f83.ok K)) (tab_cons (view_ok (f78.ok K)) tab_nil)))) Try.func90 (c := bodyOf Try.f90) (by kernel_rfl) (by kernel_rfl) (loops_none (lp := lpNone) (by kernel_rfl)) (av := f90.av) (bl := f90.bl) (inR := f90.inR) (out := f90.o0) (fuel := 400)
  (by intro s x h; unfold f90.inA at h; split at h <;> simp at h; subst h; rfl) (fun _ => Nat.le_of_ble_eq_true rfl)
  (by intro s y h; unfold f90.inR at h; split at h <;> simp at h <;> subst h <;> rfl) (fun _ _ _ => rfl) (fun _ => by kernel_rfl)
end Go.Proofs

namespace Go.Proofs
open Go.VM
abbrev f62.Ty0 := List Int × Int × List Int × Int × Int × List Int × List Int × List Int × List Int × List Int × Int
abbrev f62.Ty1 := List Int × Int × List Int × Int × Int × List Int × List Int × List Int
abbrev f62.Ty2 := List Int × Int × Int × List Int × List Int × List Int × List Int
abbrev f62.Ty3 := List Int × Int × Int × List Int × List Int × List Int
abbrev f62.Ty4 := List Int × List Int × Int × Int × List Int
noncomputable def f62.c : Code := bodyOf Try.f62
def f62.s0t (K : Nat) (rec : f62.Ty0 → Option (f62.Ty2)) (t16 : List Int) (t17 : Int) (b0_0 : List Int) (b0_1 : Int) (b0_2 : Int) (b1 : List Int) (b2 : List Int) (b3 : List Int) (b4 : List Int) (b5 : List Int) (b6 : Int) : Option (f62.Ty2) :=
  bif (decide (t17 < 64)) then
    bif decide (0 ≤ t17 ∧ t17 < 64) then
      (f78.F K ((List.getD b4 4 0), 3, 3, [6, 11, 25])).bind fun y7 =>
      (f90.F K (b5, b6, b0_0, b0_1, b0_2, b1)).bind fun y19 =>
      let v20 := IntKind.wrap .u32 ((IntKind.wrap .u32 ((IntKind.wrap .u32 ((IntKind.wrap .u32 ((List.getD b4 7 0) + y7.1)) + (bits .or .u32 (bits .and .u32 (List.getD b4 4 0) (List.getD b4 5 0)) (bits .and .u32 (bits .xor .u32 4294967295 (List.getD b4 4 0)) (List.getD b4 6 0))))) + (List.getD t16 (Int.toNat t17) 0))) + y19.1)
      (f78.F K ((List.getD b4 0 0), 3, 3, [2, 13, 22])).bind fun y22 =>
      let v33 := spl b4 1 7 (subI b4 0 7)
      rec (t16, (IntKind.wrap .i64 (t17 + 1)), y19.2.2.2.1, y19.2.2.2.2.1, y19.2.2.2.2.2.1, y19.2.2.2.2.2.2, b2, b3, (setD (setD v33 4 (IntKind.wrap .u32 ((List.getD v33 4 0) + v20))) 0 (IntKind.wrap .u32 (v20 + (IntKind.wrap .u32 (y22.1 + (bits .xor .u32 (bits .and .u32 (List.getD b4 0 0) (bits .xor .u32 (List.getD b4 1 0) (List.getD b4 2 0))) (bits .and .u32 (List.getD b4 1 0) (List.getD b4 2 0)))))))), y19.2.1, y19.2.2.1)
    else
      none
  else
    some (b0_0, b0_1, b0_2, b1, b2, b3, b4)
def f62.s0 (K : Nat) (rec : f62.Ty0 → Option (f62.Ty2)) (x : f62.Ty0) : Option (f62.Ty2) := f62.s0t K rec x.1 x.2.1 x.2.2.1 x.2.2.2.1 x.2.2.2.2.1 x.2.2.2.2.2.1 x.2.2.2.2.2.2.1 x.2.2.2.2.2.2.2.1 x.2.2.2.2.2.2.2.2.1 x.2.2.2.2.2.2.2.2.2.1 x.2.2.2.2.2.2.2.2.2.2
noncomputable def f62.s0.b : Code := (findLoop 0 f62.c).getD .skip
def f62.s0.h : Hint := { lv := [2, 4, 5, 6, 16, 17] }
def f62.s0.ho : Hint := { lv := [2, 4, 5] }
def f62.s0.shp (x : f62.Ty0) : VS := ⟨[(2, .ptr 2 0), (4, .ptr 3 0), (5, .ptr 4 0), (6, .fn 90 [.ptr 5 0, .ptr 6 0, .ptr 7 0]), (16, .agg [.ints .u32 64 x.1]), (17, .int .i64 x.2.1)], [(0, ([.ptr 1 0, .ints .u8 64 x.2.2.1, .int .i64 x.2.2.2.1, .int .u64 x.2.2.2.2.1], 30, .norm)), (1, ([.ints .u32 8 x.2.2.2.2.2.1], 110, .norm)), (2, ([.ints .u32 8 x.2.2.2.2.2.2.1], 110, .norm)), (3, ([.ints .u32 8 x.2.2.2.2.2.2.2.1], 110, .norm)), (4, ([.ints .u32 8 x.2.2.2.2.2.2.2.2.1], 110, .norm)), (5, ([.ints .u32 16 x.2.2.2.2.2.2.2.2.2.1], 146, .norm)), (6, ([.int .i64 x.2.2.2.2.2.2.2.2.2.2], 3, .norm)), (7, ([.ptr 0 1], 112, .norm))], 8⟩
def f62.s0.inX : VS → Option (f62.Ty0)
  | ⟨[(2, .ptr 2 0), (4, .ptr 3 0), (5, .ptr 4 0), (6, .fn 90 [.ptr 5 0, .ptr 6 0, .ptr 7 0]), (16, .agg [.ints .u32 64 t16]), (17, .int .i64 t17)], [(0, ([.ptr 1 0, .ints .u8 64 b0_0, .int .i64 b0_1, .int .u64 b0_2], 30, .norm)), (1, ([.ints .u32 8 b1], 110, .norm)), (2, ([.ints .u32 8 b2], 110, .norm)), (3, ([.ints .u32 8 b3], 110, .norm)), (4, ([.ints .u32 8 b4], 110, .norm)), (5, ([.ints .u32 16 b5], 146, .norm)), (6, ([.int .i64 b6], 3, .norm)), (7, ([.ptr 0 1], 112, .norm))], 8⟩ => some (t16, t17, b0_0, b0_1, b0_2, b1, b2, b3, b4, b5, b6)
  | _ => none
def f62.s0.o0 (y : f62.Ty2) : VS := ⟨[(2, .ptr 2 0), (4, .ptr 3 0), (5, .ptr 4 0)], [(0, ([.ptr 1 0, .ints .u8 64 y.1, .int .i64 y.2.1, .int .u64 y.2.2.1], 30, .norm)), (1, ([.ints .u32 8 y.2.2.2.1], 110, .norm)), (2, ([.ints .u32 8 y.2.2.2.2.1], 110, .norm)), (3, ([.ints .u32 8 y.2.2.2.2.2.1], 110, .norm)), (4, ([.ints .u32 8 y.2.2.2.2.2.2], 110, .norm))], 5⟩
def f62.s0.des : ∀ α : Type, (f62.Ty2) → (Ex → VS → Option α) → Option α := (des1 (.exit 0) f62.s0.o0)
def f62.s0.out : f62.Ty2 → Ex × VS := (fun y => (.exit 0, f62.s0.o0 y))
theorem f62.s0.desOK : ∀ α y (k : Ex → VS → Option α), f62.s0.des α y k = k (f62.s0.out y).1 (f62.s0.out y).2 := (fun _ _ _ => rfl)
def f62.s0.inY : Ex → VS → Option (f62.Ty2)
  | .exit 0, ⟨[(2, .ptr 2 0), (4, .ptr 3 0), (5, .ptr 4 0)], [(0, ([.ptr 1 0, .ints .u8 64 b0_0, .int .i64 b0_1, .int .u64 b0_2], 30, .norm)), (1, ([.ints .u32 8 b1], 110, .norm)), (2, ([.ints .u32 8 b2], 110, .norm)), (3, ([.ints .u32 8 b3], 110, .norm)), (4, ([.ints .u32 8 b4], 110, .norm))], 5⟩ => some (b0_0, b0_1, b0_2, b1, b2, b3, b4)
  | _, _ => none
def f62.s2t (_K : Nat) (rec : f62.Ty1 → Option (f62.Ty3)) (t77 : List Int) (t78 : Int) (b0_0 : List Int) (b0_1 : Int) (b0_2 : Int) (b1 : List Int) (b2 : List Int) (b3 : List Int) : Option (f62.Ty3) :=
  bif (decide (t78 < 8)) then
    bif decide (0 ≤ t78 ∧ t78 < 8) then
      bif decide (0 ≤ t78 ∧ t78 < 8) then
        bif decide (0 ≤ t78 ∧ t78 < 8) then
          rec (t77, (IntKind.wrap .i64 (t78 + 1)), b0_0, b0_1, b0_2, b1, b2, (setD b3 (Int.toNat t78) (IntKind.wrap .u32 ((List.getD b3 (Int.toNat t78) 0) + (List.getD t77 (Int.toNat t78) 0)))))
        else
          none
      else
        none
    else
      none
  else
    some (b0_0, b0_1, b0_2, b1, b2, b3)
def f62.s2 (K : Nat) (rec : f62.Ty1 → Option (f62.Ty3)) (x : f62.Ty1) : Option (f62.Ty3) := f62.s2t K rec x.1 x.2.1 x.2.2.1 x.2.2.2.1 x.2.2.2.2.1 x.2.2.2.2.2.1 x.2.2.2.2.2.2.1 x.2.2.2.2.2.2.2
noncomputable def f62.s2.b : Code := (findLoop 2 f62.c).getD .skip
def f62.s2.h : Hint := { lv := [4, 5, 77, 78] }
def f62.s2.ho : Hint := { lv := [4, 5] }
def f62.s2.shp (x : f62.Ty1) : VS := ⟨[(4, .ptr 2 0), (5, .ptr 3 0), (77, .agg [.ints .u32 8 x.1]), (78, .int .i64 x.2.1)], [(0, ([.ptr 1 0, .ints .u8 64 x.2.2.1, .int .i64 x.2.2.2.1, .int .u64 x.2.2.2.2.1], 30, .norm)), (1, ([.ints .u32 8 x.2.2.2.2.2.1], 110, .norm)), (2, ([.ints .u32 8 x.2.2.2.2.2.2.1], 110, .norm)), (3, ([.ints .u32 8 x.2.2.2.2.2.2.2], 110, .norm))], 4⟩
def f62.s2.inX : VS → Option (f62.Ty1)
  | ⟨[(4, .ptr 2 0), (5, .ptr 3 0), (77, .agg [.ints .u32 8 t77]), (78, .int .i64 t78)], [(0, ([.ptr 1 0, .ints .u8 64 b0_0, .int .i64 b0_1, .int .u64 b0_2], 30, .norm)), (1, ([.ints .u32 8 b1], 110, .norm)), (2, ([.ints .u32 8 b2], 110, .norm)), (3, ([.ints .u32 8 b3], 110, .norm))], 4⟩ => some (t77, t78, b0_0, b0_1, b0_2, b1, b2, b3)
  | _ => none
def f62.s2.o0 (y : f62.Ty3) : VS := ⟨[(4, .ptr 2 0), (5, .ptr 3 0)], [(0, ([.ptr 1 0, .ints .u8 64 y.1, .int .i64 y.2.1, .int .u64 y.2.2.1], 30, .norm)), (1, ([.ints .u32 8 y.2.2.2.1], 110, .norm)), (2, ([.ints .u32 8 y.2.2.2.2.1], 110, .norm)), (3, ([.ints .u32 8 y.2.2.2.2.2], 110, .norm))], 4⟩
def f62.s2.des : ∀ α : Type, (f62.Ty3) → (Ex → VS → Option α) → Option α := (des1 (.exit 2) f62.s2.o0)
def f62.s2.out : f62.Ty3 → Ex × VS := (fun y => (.exit 2, f62.s2.o0 y))
theorem f62.s2.desOK : ∀ α y (k : Ex → VS → Option α), f62.s2.des α y k = k (f62.s2.out y).1 (f62.s2.out y).2 := (fun _ _ _ => rfl)
def f62.s2.inY : Ex → VS → Option (f62.Ty3)
  | .exit 2, ⟨[(4, .ptr 2 0), (5, .ptr 3 0)], [(0, ([.ptr 1 0, .ints .u8 64 b0_0, .int .i64 b0_1, .int .u64 b0_2], 30, .norm)), (1, ([.ints .u32 8 b1], 110, .norm)), (2, ([.ints .u32 8 b2], 110, .norm)), (3, ([.ints .u32 8 b3], 110, .norm))], 4⟩ => some (b0_0, b0_1, b0_2, b1, b2, b3)
  | _, _ => none
def f62.lp (K : Nat) : Nat → Option (Hint × Summ) := tabLp [(0, f62.s0.h, summOf (iter (f62.s0 K) K) f62.s0.inX f62.s0.des), (2, f62.s2.h, summOf (iter (f62.s2 K) K) f62.s2.inX f62.s2.des)]
noncomputable def f62.tab (K : Nat) : List (Nat × Entry) := [(76, (f76.E K)), (77, (f77.E K)), (78, (viewE [(1, .i64)] (f78.E K))), (90, (f90.E K))]
theorem f62.tabOK (K : Nat) : SpecOK Try.prog (tabSp (f62.tab K)) := tab_ok ((tab_cons (f76.ok K) (tab_cons (f77.ok K) (tab_cons (view_ok (f78.ok K)) (tab_cons (f90.ok K) tab_nil)))))
theorem f62.s0.eq (K : Nat) (rec : f62.Ty0 → Option (f62.Ty2)) (x : f62.Ty0) : f62.s0 K rec x = roundL (getA tys) (tabSp (f62.tab K)) 90 2 (f62.lp K) 400 f62.s0.b f62.s0.h f62.s0.ho f62.s0.shp f62.s0.inX f62.s0.inY rec x := by kernel_rfl
theorem f62.s0.lok (K : Nat) : LoopsOK Try.prog 90 2 (f62.lp K) f62.s0.b := loops_ok (by
  have h : loopsIn (f62.lp K) f62.s0.b = [] := by kernel_rfl
  rw [h]; simp)
theorem f62.s0.ok (K : Nat) : SummOK Try.prog 90 2 (summOf (iter (f62.s0 K) K) f62.s0.inX f62.s0.des) f62.s0.b :=
  loop_ok mix tys_ok (f62.tabOK K) (h := f62.s0.h) (ho := f62.s0.ho) (shp := f62.s0.shp) (inX := f62.s0.inX) (des := f62.s0.des) (out := f62.s0.out) (inY := f62.s0.inY) (fuel := 400)
    (by intro st x h; unfold f62.s0.inX at h; split at h <;> simp at h; subst h; rfl)
    (by intro e st y h; unfold f62.s0.inY at h; split at h <;> simp at h <;> subst h <;> rfl)
    f62.s0.desOK (f62.s0.lok K) (f62.s0 K) (f62.s0.eq K) K
theorem f62.s2.eq (K : Nat) (rec : f62.Ty1 → Option (f62.Ty3)) (x : f62.Ty1) : f62.s2 K rec x = roundL (getA tys) (tabSp (f62.tab K)) 90 2 (f62.lp K) 400 f62.s2.b f62.s2.h f62.s2.ho f62.s2.shp f62.s2.inX f62.s2.inY rec x := by kernel_rfl
theorem f62.s2.lok (K : Nat) : LoopsOK Try.prog 90 2 (f62.lp K) f62.s2.b := loops_ok (by
  have h : loopsIn (f62.lp K) f62.s2.b = [] := by kernel_rfl
  rw [h]; simp)
theorem f62.s2.ok (K : Nat) : SummOK Try.prog 90 2 (summOf (iter (f62.s2 K) K) f62.s2.inX f62.s2.des) f62.s2.b :=
  loop_ok mix tys_ok (f62.tabOK K) (h := f62.s2.h) (ho := f62.s2.ho) (shp := f62.s2.shp) (inX := f62.s2.inX) (des := f62.s2.des) (out := f62.s2.out) (inY := f62.s2.inY) (fuel := 400)
    (by intro st x h; unfold f62.s2.inX at h; split at h <;> simp at h; subst h; rfl)
    (by intro e st y h; unfold f62.s2.inY at h; split at h <;> simp at h <;> subst h <;> rfl)
    f62.s2.desOK (f62.s2.lok K) (f62.s2 K) (f62.s2.eq K) K
theorem f62.loops (K : Nat) : LoopsOK Try.prog 90 2 (f62.lp K) f62.c := loops_ok (by
  have h : loopsIn (f62.lp K) f62.c = [(0, f62.s0.b), (2, f62.s2.b)] := by kernel_rfl
  rw [h]
  intro p hp
  simp only [List.mem_cons, List.not_mem_nil, or_false] at hp
  rcases hp with rfl | rfl
  · exact ⟨_, rfl, (f62.s0.ok K)⟩
  · exact ⟨_, rfl, (f62.s2.ok K)⟩)
def f62.T (K : Nat) (a0 : List Int) (m0_0 : List Int) (m0_1 : Int) (m0_2 : Int) (m1 : List Int) : Option (f62.Ty4) :=
  (f76.F K (m0_0, m0_1, m0_2, m1)).bind fun y1 =>
  (f77.F K ()).bind fun y2 =>
  (iter (f62.s0 K) K (y2, 0, y1.1, y1.2.1, y1.2.2.1, y1.2.2.2.1, a0, [0, 0, 0, 0, 0, 0, 0, 0], a0, y1.2.2.2.2.1, y1.2.2.2.2.2)).bind fun y40 =>
  (iter (f62.s2 K) K (y40.2.2.2.2.1, 0, y40.1, y40.2.1, y40.2.2.1, y40.2.2.2.1, y40.2.2.2.2.2.1, y40.2.2.2.2.2.2)).bind fun y50 =>
  some (y50.2.2.2.2.2, y50.1, y50.2.1, y50.2.2.1, y50.2.2.2.1)
def f62.F (K : Nat) (x : f62.Ty4) : Option (f62.Ty4) := f62.T K x.1 x.2.1 x.2.2.1 x.2.2.2.1 x.2.2.2.2
def f62.av (x : f62.Ty4) : List VV := [.agg [.ints .u32 8 x.1], .ptr 0 1]
def f62.bl (x : f62.Ty4) : List (Nat × Blk) := [(0, ([.ptr 1 0, .ints .u8 64 x.2.1, .int .i64 x.2.2.1, .int .u64 x.2.2.2.1], 30, .norm)), (1, ([.ints .u32 8 x.2.2.2.2], 110, .norm))]
def f62.inA : VS → Option (f62.Ty4)
  | ⟨[(0, .agg [.ints .u32 8 a0]), (1, .ptr 0 1)], [(0, ([.ptr 1 0, .ints .u8 64 m0_0, .int .i64 m0_1, .int .u64 m0_2], 30, .norm)), (1, ([.ints .u32 8 m1], 110, .norm))], 2⟩ => some (a0, m0_0, m0_1, m0_2, m1)
  | _ => none
def f62.o0 (y : f62.Ty4) : VS := ⟨[(0, .agg [.ints .u32 8 y.1])], [(0, ([.ptr 1 0, .ints .u8 64 y.2.1, .int .i64 y.2.2.1, .int .u64 y.2.2.2.1], 30, .norm)), (1, ([.ints .u32 8 y.2.2.2.2], 110, .norm))], 2⟩
def f62.des : ∀ α : Type, (f62.Ty4) → (VS → Option α) → Option α := (dv1 f62.o0)
def f62.out : f62.Ty4 → VS := f62.o0
def f62.inR : VS → Option (f62.Ty4)
  | ⟨[(0, .agg [.ints .u32 8 y])], [(0, ([.ptr 1 0, .ints .u8 64 z0_0, .int .i64 z0_1, .int .u64 z0_2], 30, .norm)), (1, ([.ints .u32 8 z1], 110, .norm))], 2⟩ => some (y, z0_0, z0_1, z0_2, z1)
  | _ => none
noncomputable def f62.E (K : Nat) : Entry := genE 2 f62.inA (f62.F K) f62.des
theorem f62.eq (K : Nat) (x : f62.Ty4) : f62.F K x = xrun (getA tys) (tabSp (f62.tab K)) Try.f62.ntmps 2 (f62.lp K) 400 f62.c ⟨initL 0 (f62.av x), f62.bl x, 2⟩ (contF (getA tys) 2 Try.f62.results.toList f62.inR) := by kernel_rfl
theorem f62.ok (K : Nat) : EntryOK Try.prog 62 (f62.E K) :=
  gen_ok mix tys_ok (f62.tabOK K) Try.func62 (by kernel_rfl : Try.f62.body = some f62.c) (by kernel_rfl) (f62.loops K) (av := f62.av) (bl := f62.bl) (out := f62.out) (fuel := 400)
    (by intro s x h; unfold f62.inA at h; split at h <;> simp at h; subst h; rfl) (fun _ => Nat.le_of_ble_eq_true rfl)
    (by intro s y h; unfold f62.inR at h; split at h <;> simp at h <;> subst h <;> rfl) (fun _ _ _ => rfl) (f62.eq K)
end Go.Proofs

namespace Go.Proofs
open Go.VM
def Sh.rot (x u v : Int) : Int := bits .or .u32 (shiftI .shl .u32 x u) (shiftI .shr .u32 x v)
def Sh.downs (x : Int) (L : List Nat) : Int := L.foldl (fun a k => bits .xor .u32 a (Sh.rot x ((32 - k : Nat) : Int) (k : Int))) 0
def Sh.sched (w b : List Int) (t : Nat) : List Int :=
  if t < 16 then setD w (t % 16) (IntKind.wrap .u32 ((tv (subI b (4 * t) 4) : Nat) : Int))
  else
    let x := List.getD w ((t + 1) % 16) 0
    let y := List.getD w ((t + 14) % 16) 0
    let w1 := setD w (t % 16) (IntKind.wrap .u32 ((List.getD w (t % 16) 0) + (bits .xor .u32 (Sh.downs x [7, 18]) (Int.fdiv x (2 ^ 3)))))
    let w2 := setD w1 (t % 16) (IntKind.wrap .u32 ((List.getD w1 (t % 16) 0) + (bits .xor .u32 (Sh.downs y [17, 19]) (Int.fdiv y (2 ^ 10)))))
    setD w2 (t % 16) (IntKind.wrap .u32 ((List.getD w2 (t % 16) 0) + (List.getD w2 ((t + 9) % 16) 0)))
def Sh.consts : List Int := [1116352408, 1899447441, 3049323471, 3921009573, 961987163, 1508970993, 2453635748, 2870763221, 3624381080, 310598401, 607225278, 1426881987, 1925078388, 2162078206, 2614888103, 3248222580, 3835390401, 4022224774, 264347078, 604807628, 770255983, 1249150122, 1555081692, 1996064986, 2554220882, 2821834349, 2952996808, 3210313671, 3336571891, 3584528711, 113926993, 338241895, 666307205, 773529912, 1294757372, 1396182291, 1695183700, 1986661051, 2177026350, 2456956037, 2730485921, 2820302411, 3259730800, 3345764771, 3516065817, 3600352804, 4094571909, 275423344, 430227734, 506948616, 659060556, 883997877, 958139571, 1322822218, 1537002063, 1747873779, 1955562222, 2024104815, 2227730452, 2361852424, 2428436474, 2756734187, 3204031479, 3329325298]
def Sh.step (b : List Int) (t : Nat) (vw : List Int × List Int) : List Int × List Int :=
  let v := vw.1
  let w := Sh.sched vw.2 b t
  let t1 := IntKind.wrap .u32 ((IntKind.wrap .u32 ((IntKind.wrap .u32 ((IntKind.wrap .u32 ((List.getD v 7 0) + Sh.downs (List.getD v 4 0) [6, 11, 25])) + (bits .or .u32 (bits .and .u32 (List.getD v 4 0) (List.getD v 5 0)) (bits .and .u32 (bits .xor .u32 4294967295 (List.getD v 4 0)) (List.getD v 6 0))))) + (List.getD Sh.consts t 0))) + List.getD w (t % 16) 0)
  let v33 := spl v 1 7 (subI v 0 7)
  (setD (setD v33 4 (IntKind.wrap .u32 ((List.getD v33 4 0) + t1))) 0 (IntKind.wrap .u32 (t1 + (IntKind.wrap .u32 (Sh.downs (List.getD v 0 0) [2, 13, 22] + (bits .xor .u32 (bits .and .u32 (List.getD v 0 0) (bits .xor .u32 (List.getD v 1 0) (List.getD v 2 0))) (bits .and .u32 (List.getD v 1 0) (List.getD v 2 0))))))), w)
def Sh.rounds (s b : List Int) : Nat → List Int × List Int
  | 0 => (s, [0, 0, 0, 0, 0, 0, 0, 0, 0, 0, 0, 0, 0, 0, 0, 0])
  | t + 1 => Sh.step b t (Sh.rounds s b t)
def Sh.added (v s : List Int) : Nat → List Int
  | 0 => s
  | i + 1 => setD (Sh.added v s i) i (IntKind.wrap .u32 (List.getD (Sh.added v s i) i 0 + List.getD v i 0))
def Sh.comp (s b : List Int) : List Int := Sh.added s (Sh.rounds s b 64).1 8
end Go.Proofs

namespace Go.Proofs
open Go.VM
abbrev f40v2.Ty0 := Nat × Nat × List Int × Int × Int × Nat × Nat × Nat × List Int × Nat × List Int × List Int
abbrev f40v2.Ty1 := List Int × Int × Int × Nat × Nat × Nat × List Int × Nat × List Int × List Int
abbrev f40v2.Ty2 := List Int × Int × Int × Nat × Nat × List Int × Nat × List Int × Nat × List Int
noncomputable def f40v2.c : Code := bodyOf Try.f40
def f40v2.s2t (K : Nat) (rec : f40v2.Ty0 → Option (f40v2.Ty1)) (t5_0 : Nat) (t5_1 : Nat) (b0_0 : List Int) (b0_1 : Int) (b0_2 : Int) (b1_0 : Nat) (b1_1 : Nat) (b4_0 : Nat) (b4_1 : List Int) (b6_0 : Nat) (b6_1 : List Int) (b9 : List Int) : Option (f40v2.Ty1) :=
  bif (decide (((t5_1 : Nat) : Int) > 0)) then
    bif decide (0 ≤ b0_1 ∧ b0_1 ≤ 64) then
      let v6 := bif Nat.beq 64 (Int.toNat b0_1) then 0 else (Int.toNat b0_1)
      let v7 := 64 - (Int.toNat b0_1)
      bif (((Nat.ble (t5_0 + t5_1) b4_0 && true) && (Nat.ble (v6 + v7) 64)) && (Nat.beq t5_1 t5_1)) then
        let v9 := ((Nat.min t5_1 v7 : Nat) : Int)
        let v10 := spl b0_0 v6 (Nat.min t5_1 v7) (subI b4_1 t5_0 t5_1)
        bif decide (0 ≤ v9 ∧ v9 ≤ ((t5_1 : Nat) : Int)) then
          let v11 := t5_0 + (Int.toNat v9)
          let v12 := t5_1 - (Int.toNat v9)
          let v13 := IntKind.wrap .i64 (b0_1 + v9)
          bif (v13 == 64) then
            (f62.F K (b9, v10, v13, b0_2, b9)).bind fun y14 =>
            rec (v11, v12, y14.2.1, 0, y14.2.2.2.1, b1_0, b1_1, b4_0, b4_1, b6_0, b6_1, y14.1)
          else
            rec (v11, v12, v10, v13, b0_2, b1_0, b1_1, b4_0, b4_1, b6_0, b6_1, b9)
        else
          none
      else
        none
    else
      none
  else
    some (b0_0, b0_1, b0_2, b1_0, b1_1, b4_0, b4_1, b6_0, b6_1, b9)
def f40v2.s2 (K : Nat) (rec : f40v2.Ty0 → Option (f40v2.Ty1)) (x : f40v2.Ty0) : Option (f40v2.Ty1) := f40v2.s2t K rec x.1 x.2.1 x.2.2.1 x.2.2.2.1 x.2.2.2.2.1 x.2.2.2.2.2.1 x.2.2.2.2.2.2.1 x.2.2.2.2.2.2.2.1 x.2.2.2.2.2.2.2.2.1 x.2.2.2.2.2.2.2.2.2.1 x.2.2.2.2.2.2.2.2.2.2.1 x.2.2.2.2.2.2.2.2.2.2.2
noncomputable def f40v2.s2.b : Code := (findLoop 2 f40v2.c).getD .skip
def f40v2.s2.h : Hint := { lv := [0, 5, 8, 9, 10], co := [(5, 0, [])], mv := [3] }
def f40v2.s2.ho : Hint := { lv := [0, 8, 9, 10] }
def f40v2.s2.shp (x : f40v2.Ty0) : VS := ⟨[(0, .ptr 0 0), (5, .vw true 4 x.1 x.2.1 8), (8, .vw true 1 0 2 2), (9, .int .i64 2), (10, .int .i64 0)], [(0, ([.ptr 9 0, .ints .u8 64 x.2.2.1, .int .i64 x.2.2.2.1, .int .u64 x.2.2.2.2.1], 30, .norm)), (1, ([.vw true 4 0 x.2.2.2.2.2.1 5, .vw true 6 0 x.2.2.2.2.2.2.1 7], 0, .ro)), (3, ([], 110, .dead)), (4, ([.ints .u8 x.2.2.2.2.2.2.2.1 x.2.2.2.2.2.2.2.2.1], 0, .ro)), (6, ([.ints .u8 x.2.2.2.2.2.2.2.2.2.1 x.2.2.2.2.2.2.2.2.2.2.1], 0, .ro)), (9, ([.ints .u32 8 x.2.2.2.2.2.2.2.2.2.2.2], 110, .norm))], 10⟩
def f40v2.s2.inX : VS → Option (f40v2.Ty0)
  | ⟨[(0, .ptr 0 0), (5, .vw true 4 t5_0 t5_1 8), (8, .vw true 1 0 2 2), (9, .int .i64 2), (10, .int .i64 0)], [(0, ([.ptr 9 0, .ints .u8 64 b0_0, .int .i64 b0_1, .int .u64 b0_2], 30, .norm)), (1, ([.vw true 4 0 b1_0 5, .vw true 6 0 b1_1 7], 0, .ro)), (3, ([], 110, .dead)), (4, ([.ints .u8 b4_0 b4_1], 0, .ro)), (6, ([.ints .u8 b6_0 b6_1], 0, .ro)), (9, ([.ints .u32 8 b9], 110, .norm))], 10⟩ => some (t5_0, t5_1, b0_0, b0_1, b0_2, b1_0, b1_1, b4_0, b4_1, b6_0, b6_1, b9)
  | _ => none
def f40v2.s2.o0 (y : f40v2.Ty1) : VS := ⟨[(0, .ptr 0 0), (8, .vw true 1 0 2 2), (9, .int .i64 2), (10, .int .i64 0)], [(0, ([.ptr 8 0, .ints .u8 64 y.1, .int .i64 y.2.1, .int .u64 y.2.2.1], 30, .norm)), (1, ([.vw true 4 0 y.2.2.2.1 5, .vw true 6 0 y.2.2.2.2.1 7], 0, .ro)), (3, ([], 110, .dead)), (4, ([.ints .u8 y.2.2.2.2.2.1 y.2.2.2.2.2.2.1], 0, .ro)), (6, ([.ints .u8 y.2.2.2.2.2.2.2.1 y.2.2.2.2.2.2.2.2.1], 0, .ro)), (8, ([.ints .u32 8 y.2.2.2.2.2.2.2.2.2], 110, .norm))], 9⟩
def f40v2.s2.des : ∀ α : Type, (f40v2.Ty1) → (Ex → VS → Option α) → Option α := (des1 (.exit 2) f40v2.s2.o0)
def f40v2.s2.out : f40v2.Ty1 → Ex × VS := (fun y => (.exit 2, f40v2.s2.o0 y))
theorem f40v2.s2.desOK : ∀ α y (k : Ex → VS → Option α), f40v2.s2.des α y k = k (f40v2.s2.out y).1 (f40v2.s2.out y).2 := (fun _ _ _ => rfl)
def f40v2.s2.inY : Ex → VS → Option (f40v2.Ty1)
  | .exit 2, ⟨[(0, .ptr 0 0), (8, .vw true 1 0 2 2), (9, .int .i64 2), (10, .int .i64 0)], [(0, ([.ptr 8 0, .ints .u8 64 b0_0, .int .i64 b0_1, .int .u64 b0_2], 30, .norm)), (1, ([.vw true 4 0 b1_0 5, .vw true 6 0 b1_1 7], 0, .ro)), (3, ([], 110, .dead)), (4, ([.ints .u8 b4_0 b4_1], 0, .ro)), (6, ([.ints .u8 b6_0 b6_1], 0, .ro)), (8, ([.ints .u32 8 b8], 110, .norm))], 9⟩ => some (b0_0, b0_1, b0_2, b1_0, b1_1, b4_0, b4_1, b6_0, b6_1, b8)
  | _, _ => none
def f40v2.s2bt (K : Nat) (rec : f40v2.Ty0 → Option (f40v2.Ty1)) (t5_0 : Nat) (t5_1 : Nat) (b0_0 : List Int) (b0_1 : Int) (b0_2 : Int) (b1_0 : Nat) (b1_1 : Nat) (b4_0 : Nat) (b4_1 : List Int) (b6_0 : Nat) (b6_1 : List Int) (b9 : List Int) : Option (f40v2.Ty1) :=
  bif (decide (((t5_1 : Nat) : Int) > 0)) then
    bif decide (0 ≤ b0_1 ∧ b0_1 ≤ 64) then
      let v22 := bif Nat.beq 64 (Int.toNat b0_1) then 0 else (Int.toNat b0_1)
      let v23 := 64 - (Int.toNat b0_1)
      bif (((Nat.ble (t5_0 + t5_1) b6_0 && true) && (Nat.ble (v22 + v23) 64)) && (Nat.beq t5_1 t5_1)) then
        let v25 := ((Nat.min t5_1 v23 : Nat) : Int)
        let v26 := spl b0_0 v22 (Nat.min t5_1 v23) (subI b6_1 t5_0 t5_1)
        bif decide (0 ≤ v25 ∧ v25 ≤ ((t5_1 : Nat) : Int)) then
          let v27 := t5_0 + (Int.toNat v25)
          let v28 := t5_1 - (Int.toNat v25)
          let v29 := IntKind.wrap .i64 (b0_1 + v25)
          bif (v29 == 64) then
            (f62.F K (b9, v26, v29, b0_2, b9)).bind fun y30 =>
            rec (v27, v28, y30.2.1, 0, y30.2.2.2.1, b1_0, b1_1, b4_0, b4_1, b6_0, b6_1, y30.1)
          else
            rec (v27, v28, v26, v29, b0_2, b1_0, b1_1, b4_0, b4_1, b6_0, b6_1, b9)
        else
          none
      else
        none
    else
      none
  else
    some (b0_0, b0_1, b0_2, b1_0, b1_1, b4_0, b4_1, b6_0, b6_1, b9)
def f40v2.s2b (K : Nat) (rec : f40v2.Ty0 → Option (f40v2.Ty1)) (x : f40v2.Ty0) : Option (f40v2.Ty1) := f40v2.s2bt K rec x.1 x.2.1 x.2.2.1 x.2.2.2.1 x.2.2.2.2.1 x.2.2.2.2.2.1 x.2.2.2.2.2.2.1 x.2.2.2.2.2.2.2.1 x.2.2.2.2.2.2.2.2.1 x.2.2.2.2.2.2.2.2.2.1 x.2.2.2.2.2.2.2.2.2.2.1 x.2.2.2.2.2.2.2.2.2.2.2
noncomputable def f40v2.s2b.b : Code := (findLoop 2 f40v2.c).getD .skip
def f40v2.s2b.h : Hint := { lv := [0, 5, 8, 9, 10], co := [(5, 0, [])], mv := [3] }
def f40v2.s2b.ho : Hint := { lv := [0, 8, 9, 10] }
def f40v2.s2b.shp (x : f40v2.Ty0) : VS := ⟨[(0, .ptr 0 0), (5, .vw true 6 x.1 x.2.1 8), (8, .vw true 1 0 2 2), (9, .int .i64 2), (10, .int .i64 1)], [(0, ([.ptr 9 0, .ints .u8 64 x.2.2.1, .int .i64 x.2.2.2.1, .int .u64 x.2.2.2.2.1], 30, .norm)), (1, ([.vw true 4 0 x.2.2.2.2.2.1 5, .vw true 6 0 x.2.2.2.2.2.2.1 7], 0, .ro)), (3, ([], 110, .dead)), (4, ([.ints .u8 x.2.2.2.2.2.2.2.1 x.2.2.2.2.2.2.2.2.1], 0, .ro)), (6, ([.ints .u8 x.2.2.2.2.2.2.2.2.2.1 x.2.2.2.2.2.2.2.2.2.2.1], 0, .ro)), (9, ([.ints .u32 8 x.2.2.2.2.2.2.2.2.2.2.2], 110, .norm))], 10⟩
def f40v2.s2b.inX : VS → Option (f40v2.Ty0)
  | ⟨[(0, .ptr 0 0), (5, .vw true 6 t5_0 t5_1 8), (8, .vw true 1 0 2 2), (9, .int .i64 2), (10, .int .i64 1)], [(0, ([.ptr 9 0, .ints .u8 64 b0_0, .int .i64 b0_1, .int .u64 b0_2], 30, .norm)), (1, ([.vw true 4 0 b1_0 5, .vw true 6 0 b1_1 7], 0, .ro)), (3, ([], 110, .dead)), (4, ([.ints .u8 b4_0 b4_1], 0, .ro)), (6, ([.ints .u8 b6_0 b6_1], 0, .ro)), (9, ([.ints .u32 8 b9], 110, .norm))], 10⟩ => some (t5_0, t5_1, b0_0, b0_1, b0_2, b1_0, b1_1, b4_0, b4_1, b6_0, b6_1, b9)
  | _ => none
def f40v2.s2b.o0 (y : f40v2.Ty1) : VS := ⟨[(0, .ptr 0 0), (8, .vw true 1 0 2 2), (9, .int .i64 2), (10, .int .i64 1)], [(0, ([.ptr 8 0, .ints .u8 64 y.1, .int .i64 y.2.1, .int .u64 y.2.2.1], 30, .norm)), (1, ([.vw true 4 0 y.2.2.2.1 5, .vw true 6 0 y.2.2.2.2.1 7], 0, .ro)), (3, ([], 110, .dead)), (4, ([.ints .u8 y.2.2.2.2.2.1 y.2.2.2.2.2.2.1], 0, .ro)), (6, ([.ints .u8 y.2.2.2.2.2.2.2.1 y.2.2.2.2.2.2.2.2.1], 0, .ro)), (8, ([.ints .u32 8 y.2.2.2.2.2.2.2.2.2], 110, .norm))], 9⟩
def f40v2.s2b.des : ∀ α : Type, (f40v2.Ty1) → (Ex → VS → Option α) → Option α := (des1 (.exit 2) f40v2.s2b.o0)
def f40v2.s2b.out : f40v2.Ty1 → Ex × VS := (fun y => (.exit 2, f40v2.s2b.o0 y))
theorem f40v2.s2b.desOK : ∀ α y (k : Ex → VS → Option α), f40v2.s2b.des α y k = k (f40v2.s2b.out y).1 (f40v2.s2b.out y).2 := (fun _ _ _ => rfl)
def f40v2.s2b.inY : Ex → VS → Option (f40v2.Ty1)
  | .exit 2, ⟨[(0, .ptr 0 0), (8, .vw true 1 0 2 2), (9, .int .i64 2), (10, .int .i64 1)], [(0, ([.ptr 8 0, .ints .u8 64 b0_0, .int .i64 b0_1, .int .u64 b0_2], 30, .norm)), (1, ([.vw true 4 0 b1_0 5, .vw true 6 0 b1_1 7], 0, .ro)), (3, ([], 110, .dead)), (4, ([.ints .u8 b4_0 b4_1], 0, .ro)), (6, ([.ints .u8 b6_0 b6_1], 0, .ro)), (8, ([.ints .u32 8 b8], 110, .norm))], 9⟩ => some (b0_0, b0_1, b0_2, b1_0, b1_1, b4_0, b4_1, b6_0, b6_1, b8)
  | _, _ => none
def f40v2.lp (K : Nat) : Nat → Option (Hint × Summ) := tabLp [(2, f40v2.s2.h, summOr f40v2.s2.inX (summOf (iter (f40v2.s2 K) K) f40v2.s2.inX f40v2.s2.des) (summOf (iter (f40v2.s2b K) K) f40v2.s2b.inX f40v2.s2b.des))]
noncomputable def f40v2.tab (K : Nat) : List (Nat × Entry) := [(62, (f62.E K))]
theorem f40v2.tabOK (K : Nat) : SpecOK Try.prog (tabSp (f40v2.tab K)) := tab_ok ((tab_cons (f62.ok K) tab_nil))
theorem f40v2.s2.eq (K : Nat) (rec : f40v2.Ty0 → Option (f40v2.Ty1)) (x : f40v2.Ty0) : f40v2.s2 K rec x = roundL (getA tys) (tabSp (f40v2.tab K)) 76 8 (f40v2.lp K) 400 f40v2.s2.b f40v2.s2.h f40v2.s2.ho f40v2.s2.shp f40v2.s2.inX f40v2.s2.inY rec x := by kernel_rfl
theorem f40v2.s2.lok (K : Nat) : LoopsOK Try.prog 76 8 (f40v2.lp K) f40v2.s2.b := loops_ok (by
  have h : loopsIn (f40v2.lp K) f40v2.s2.b = [] := by kernel_rfl
  rw [h]; simp)
theorem f40v2.s2.ok (K : Nat) : SummOK Try.prog 76 8 (summOf (iter (f40v2.s2 K) K) f40v2.s2.inX f40v2.s2.des) f40v2.s2.b :=
  loop_ok mix tys_ok (f40v2.tabOK K) (h := f40v2.s2.h) (ho := f40v2.s2.ho) (shp := f40v2.s2.shp) (inX := f40v2.s2.inX) (des := f40v2.s2.des) (out := f40v2.s2.out) (inY := f40v2.s2.inY) (fuel := 400)
    (by intro st x h; unfold f40v2.s2.inX at h; split at h <;> simp at h; subst h; rfl)
    (by intro e st y h; unfold f40v2.s2.inY at h; split at h <;> simp at h <;> subst h <;> rfl)
    f40v2.s2.desOK (f40v2.s2.lok K) (f40v2.s2 K) (f40v2.s2.eq K) K
theorem f40v2.s2b.eq (K : Nat) (rec : f40v2.Ty0 → Option (f40v2.Ty1)) (x : f40v2.Ty0) : f40v2.s2b K rec x = roundL (getA tys) (tabSp (f40v2.tab K)) 76 8 (f40v2.lp K) 400 f40v2.s2b.b f40v2.s2b.h f40v2.s2b.ho f40v2.s2b.shp f40v2.s2b.inX f40v2.s2b.inY rec x := by kernel_rfl
theorem f40v2.s2b.lok (K : Nat) : LoopsOK Try.prog 76 8 (f40v2.lp K) f40v2.s2b.b := loops_ok (by
  have h : loopsIn (f40v2.lp K) f40v2.s2b.b = [] := by kernel_rfl
  rw [h]; simp)
theorem f40v2.s2b.ok (K : Nat) : SummOK Try.prog 76 8 (summOf (iter (f40v2.s2b K) K) f40v2.s2b.inX f40v2.s2b.des) f40v2.s2b.b :=
  loop_ok mix tys_ok (f40v2.tabOK K) (h := f40v2.s2b.h) (ho := f40v2.s2b.ho) (shp := f40v2.s2b.shp) (inX := f40v2.s2b.inX) (des := f40v2.s2b.des) (out := f40v2.s2b.out) (inY := f40v2.s2b.inY) (fuel := 400)
    (by intro st x h; unfold f40v2.s2b.inX at h; split at h <;> simp at h; subst h; rfl)
    (by intro e st y h; unfold f40v2.s2b.inY at h; split at h <;> simp at h <;> subst h <;> rfl)
    f40v2.s2b.desOK (f40v2.s2b.lok K) (f40v2.s2b K) (f40v2.s2b.eq K) K
theorem f40v2.loops (K : Nat) : LoopsOK Try.prog 76 8 (f40v2.lp K) f40v2.c := loops_ok (by
  have h : loopsIn (f40v2.lp K) f40v2.c = [(2, f40v2.s2.b)] := by kernel_rfl
  rw [h]
  intro p hp
  simp only [List.mem_cons, List.not_mem_nil, or_false] at hp
  rcases hp with rfl
  · exact ⟨_, rfl, (summOr_ok (f40v2.s2.ok K) (f40v2.s2b.ok K))⟩)
def f40v2.T (K : Nat) (m0_0 : List Int) (m0_1 : Int) (m0_2 : Int) (m1_0 : Nat) (m1_1 : Nat) (m3 : List Int) (m4_0 : Nat) (m4_1 : List Int) (m6_0 : Nat) (m6_1 : List Int) : Option (f40v2.Ty1) :=
  (iter (f40v2.s2 K) K (0, m1_0, m0_0, m0_1, (IntKind.wrap .u64 (m0_2 + (IntKind.wrap .u64 ((m1_0 : Nat) : Int)))), m1_0, m1_1, m4_0, m4_1, m6_0, m6_1, m3)).bind fun y15 =>
  let v16 := y15.2.2.2.2.1
  (iter (f40v2.s2b K) K (0, v16, y15.1, y15.2.1, (IntKind.wrap .u64 (y15.2.2.1 + (IntKind.wrap .u64 ((v16 : Nat) : Int)))), y15.2.2.2.1, y15.2.2.2.2.1, y15.2.2.2.2.2.1, y15.2.2.2.2.2.2.1, y15.2.2.2.2.2.2.2.1, y15.2.2.2.2.2.2.2.2.1, y15.2.2.2.2.2.2.2.2.2)).bind fun y31 =>
  some (y31.1, y31.2.1, y31.2.2.1, y31.2.2.2.1, y31.2.2.2.2.1, y31.2.2.2.2.2.1, y31.2.2.2.2.2.2.1, y31.2.2.2.2.2.2.2.1, y31.2.2.2.2.2.2.2.2.1, y31.2.2.2.2.2.2.2.2.2)
def f40v2.F (K : Nat) (x : f40v2.Ty2) : Option (f40v2.Ty1) := f40v2.T K x.1 x.2.1 x.2.2.1 x.2.2.2.1 x.2.2.2.2.1 x.2.2.2.2.2.1 x.2.2.2.2.2.2.1 x.2.2.2.2.2.2.2.1 x.2.2.2.2.2.2.2.2.1 x.2.2.2.2.2.2.2.2.2
def f40v2.av (_x : f40v2.Ty2) : List VV := [.ptr 0 0, .vw true 1 0 2 2]
def f40v2.bl (x : f40v2.Ty2) : List (Nat × Blk) := [(0, ([.ptr 3 0, .ints .u8 64 x.1, .int .i64 x.2.1, .int .u64 x.2.2.1], 30, .norm)), (1, ([.vw true 4 0 x.2.2.2.1 5, .vw true 6 0 x.2.2.2.2.1 7], 0, .ro)), (3, ([.ints .u32 8 x.2.2.2.2.2.1], 110, .norm)), (4, ([.ints .u8 x.2.2.2.2.2.2.1 x.2.2.2.2.2.2.2.1], 0, .ro)), (6, ([.ints .u8 x.2.2.2.2.2.2.2.2.1 x.2.2.2.2.2.2.2.2.2], 0, .ro))]
def f40v2.inA : VS → Option (f40v2.Ty2)
  | ⟨[(0, .ptr 0 0), (1, .vw true 1 0 2 2)], [(0, ([.ptr 3 0, .ints .u8 64 m0_0, .int .i64 m0_1, .int .u64 m0_2], 30, .norm)), (1, ([.vw true 4 0 m1_0 5, .vw true 6 0 m1_1 7], 0, .ro)), (3, ([.ints .u32 8 m3], 110, .norm)), (4, ([.ints .u8 m4_0 m4_1], 0, .ro)), (6, ([.ints .u8 m6_0 m6_1], 0, .ro))], 8⟩ => some (m0_0, m0_1, m0_2, m1_0, m1_1, m3, m4_0, m4_1, m6_0, m6_1)
  | _ => none
def f40v2.o0 (y : f40v2.Ty1) : VS := ⟨[(0, .tup [])], [(0, ([.ptr 8 0, .ints .u8 64 y.1, .int .i64 y.2.1, .int .u64 y.2.2.1], 30, .norm)), (1, ([.vw true 4 0 y.2.2.2.1 5, .vw true 6 0 y.2.2.2.2.1 7], 0, .ro)), (3, ([], 110, .dead)), (4, ([.ints .u8 y.2.2.2.2.2.1 y.2.2.2.2.2.2.1], 0, .ro)), (6, ([.ints .u8 y.2.2.2.2.2.2.2.1 y.2.2.2.2.2.2.2.2.1], 0, .ro)), (8, ([.ints .u32 8 y.2.2.2.2.2.2.2.2.2], 110, .norm))], 9⟩
def f40v2.des : ∀ α : Type, (f40v2.Ty1) → (VS → Option α) → Option α := (dv1 f40v2.o0)
def f40v2.out : f40v2.Ty1 → VS := f40v2.o0
def f40v2.inR : VS → Option (f40v2.Ty1)
  | ⟨[(0, .tup [])], [(0, ([.ptr 8 0, .ints .u8 64 z0_0, .int .i64 z0_1, .int .u64 z0_2], 30, .norm)), (1, ([.vw true 4 0 z1_0 5, .vw true 6 0 z1_1 7], 0, .ro)), (3, ([], 110, .dead)), (4, ([.ints .u8 z4_0 z4_1], 0, .ro)), (6, ([.ints .u8 z6_0 z6_1], 0, .ro)), (8, ([.ints .u32 8 z8], 110, .norm))], 9⟩ => some (z0_0, z0_1, z0_2, z1_0, z1_1, z4_0, z4_1, z6_0, z6_1, z8)
  | _ => none
noncomputable def f40v2.E (K : Nat) : Entry := genE 8 f40v2.inA (f40v2.F K) f40v2.des
theorem f40v2.eq (K : Nat) (x : f40v2.Ty2) : f40v2.F K x = xrun (getA tys) (tabSp (f40v2.tab K)) Try.f40.ntmps 8 (f40v2.lp K) 400 f40v2.c ⟨initL 0 (f40v2.av x), f40v2.bl x, 8⟩ (contF (getA tys) 8 Try.f40.results.toList f40v2.inR) := by kernel_rfl
theorem f40v2.ok (K : Nat) : EntryOK Try.prog 40 (f40v2.E K) :=
  gen_ok mix tys_ok (f40v2.tabOK K) Try.func40 (by kernel_rfl : Try.f40.body = some f40v2.c) (by kernel_rfl) (f40v2.loops K) (av := f40v2.av) (bl := f40v2.bl) (out := f40v2.out) (fuel := 400)
    (by intro s x h; unfold f40v2.inA at h; split at h <;> simp at h; subst h; rfl) (fun _ => Nat.le_of_ble_eq_true rfl)
    (by intro s y h; unfold f40v2.inR at h; split at h <;> simp at h <;> subst h <;> rfl) (fun _ _ _ => rfl) (f40v2.eq K)
end Go.Proofs

namespace Go.Proofs
open Go.VM
abbrev f40.Ty0 := Nat × Nat × List Int × Int × Int × Nat × Nat × List Int × List Int
abbrev f40.Ty1 := List Int × Int × Int × Nat × Nat × List Int × List Int
abbrev f40.Ty2 := List Int × Int × Int × Nat × List Int × Nat × List Int
noncomputable def f40.c : Code := bodyOf Try.f40
def f40.s2t (K : Nat) (rec : f40.Ty0 → Option (f40.Ty1)) (t5_0 : Nat) (t5_1 : Nat) (b0_0 : List Int) (b0_1 : Int) (b0_2 : Int) (b1 : Nat) (b4_0 : Nat) (b4_1 : List Int) (b7 : List Int) : Option (f40.Ty1) :=
  bif (decide (((t5_1 : Nat) : Int) > 0)) then
    bif decide (0 ≤ b0_1 ∧ b0_1 ≤ 64) then
      let v6 := bif Nat.beq 64 (Int.toNat b0_1) then 0 else (Int.toNat b0_1)
      let v7 := 64 - (Int.toNat b0_1)
      bif (((Nat.ble (t5_0 + t5_1) b4_0 && true) && (Nat.ble (v6 + v7) 64)) && (Nat.beq t5_1 t5_1)) then
        let v9 := ((Nat.min t5_1 v7 : Nat) : Int)
        let v10 := spl b0_0 v6 (Nat.min t5_1 v7) (subI b4_1 t5_0 t5_1)
        bif decide (0 ≤ v9 ∧ v9 ≤ ((t5_1 : Nat) : Int)) then
          let v11 := t5_0 + (Int.toNat v9)
          let v12 := t5_1 - (Int.toNat v9)
          let v13 := IntKind.wrap .i64 (b0_1 + v9)
          bif (v13 == 64) then
            (f62.F K (b7, v10, v13, b0_2, b7)).bind fun y14 =>
            rec (v11, v12, y14.2.1, 0, y14.2.2.2.1, b1, b4_0, b4_1, y14.1)
          else
            rec (v11, v12, v10, v13, b0_2, b1, b4_0, b4_1, b7)
        else
          none
      else
        none
    else
      none
  else
    some (b0_0, b0_1, b0_2, b1, b4_0, b4_1, b7)
def f40.s2 (K : Nat) (rec : f40.Ty0 → Option (f40.Ty1)) (x : f40.Ty0) : Option (f40.Ty1) := f40.s2t K rec x.1 x.2.1 x.2.2.1 x.2.2.2.1 x.2.2.2.2.1 x.2.2.2.2.2.1 x.2.2.2.2.2.2.1 x.2.2.2.2.2.2.2.1 x.2.2.2.2.2.2.2.2
noncomputable def f40.s2.b : Code := (findLoop 2 f40.c).getD .skip
def f40.s2.h : Hint := { lv := [0, 5, 8, 9, 10], co := [(5, 0, [])], mv := [3] }
def f40.s2.ho : Hint := { lv := [0, 8, 9, 10] }
def f40.s2.shp (x : f40.Ty0) : VS := ⟨[(0, .ptr 0 0), (5, .vw true 4 x.1 x.2.1 6), (8, .vw true 1 0 1 2), (9, .int .i64 1), (10, .int .i64 0)], [(0, ([.ptr 7 0, .ints .u8 64 x.2.2.1, .int .i64 x.2.2.2.1, .int .u64 x.2.2.2.2.1], 30, .norm)), (1, ([.vw true 4 0 x.2.2.2.2.2.1 5], 0, .ro)), (3, ([], 110, .dead)), (4, ([.ints .u8 x.2.2.2.2.2.2.1 x.2.2.2.2.2.2.2.1], 0, .ro)), (7, ([.ints .u32 8 x.2.2.2.2.2.2.2.2], 110, .norm))], 8⟩
def f40.s2.inX : VS → Option (f40.Ty0)
  | ⟨[(0, .ptr 0 0), (5, .vw true 4 t5_0 t5_1 6), (8, .vw true 1 0 1 2), (9, .int .i64 1), (10, .int .i64 0)], [(0, ([.ptr 7 0, .ints .u8 64 b0_0, .int .i64 b0_1, .int .u64 b0_2], 30, .norm)), (1, ([.vw true 4 0 b1 5], 0, .ro)), (3, ([], 110, .dead)), (4, ([.ints .u8 b4_0 b4_1], 0, .ro)), (7, ([.ints .u32 8 b7], 110, .norm))], 8⟩ => some (t5_0, t5_1, b0_0, b0_1, b0_2, b1, b4_0, b4_1, b7)
  | _ => none
def f40.s2.o0 (y : f40.Ty1) : VS := ⟨[(0, .ptr 0 0), (8, .vw true 1 0 1 2), (9, .int .i64 1), (10, .int .i64 0)], [(0, ([.ptr 6 0, .ints .u8 64 y.1, .int .i64 y.2.1, .int .u64 y.2.2.1], 30, .norm)), (1, ([.vw true 4 0 y.2.2.2.1 5], 0, .ro)), (3, ([], 110, .dead)), (4, ([.ints .u8 y.2.2.2.2.1 y.2.2.2.2.2.1], 0, .ro)), (6, ([.ints .u32 8 y.2.2.2.2.2.2], 110, .norm))], 7⟩
def f40.s2.des : ∀ α : Type, (f40.Ty1) → (Ex → VS → Option α) → Option α := (des1 (.exit 2) f40.s2.o0)
def f40.s2.out : f40.Ty1 → Ex × VS := (fun y => (.exit 2, f40.s2.o0 y))
theorem f40.s2.desOK : ∀ α y (k : Ex → VS → Option α), f40.s2.des α y k = k (f40.s2.out y).1 (f40.s2.out y).2 := (fun _ _ _ => rfl)
def f40.s2.inY : Ex → VS → Option (f40.Ty1)
  | .exit 2, ⟨[(0, .ptr 0 0), (8, .vw true 1 0 1 2), (9, .int .i64 1), (10, .int .i64 0)], [(0, ([.ptr 6 0, .ints .u8 64 b0_0, .int .i64 b0_1, .int .u64 b0_2], 30, .norm)), (1, ([.vw true 4 0 b1 5], 0, .ro)), (3, ([], 110, .dead)), (4, ([.ints .u8 b4_0 b4_1], 0, .ro)), (6, ([.ints .u32 8 b6], 110, .norm))], 7⟩ => some (b0_0, b0_1, b0_2, b1, b4_0, b4_1, b6)
  | _, _ => none
def f40.lp (K : Nat) : Nat → Option (Hint × Summ) := tabLp [(2, f40.s2.h, summOf (iter (f40.s2 K) K) f40.s2.inX f40.s2.des)]
noncomputable def f40.tab (K : Nat) : List (Nat × Entry) := [(62, (f62.E K))]
theorem f40.tabOK (K : Nat) : SpecOK Try.prog (tabSp (f40.tab K)) := tab_ok ((tab_cons (f62.ok K) tab_nil))
theorem f40.s2.eq (K : Nat) (rec : f40.Ty0 → Option (f40.Ty1)) (x : f40.Ty0) : f40.s2 K rec x = roundL (getA tys) (tabSp (f40.tab K)) 76 6 (f40.lp K) 400 f40.s2.b f40.s2.h f40.s2.ho f40.s2.shp f40.s2.inX f40.s2.inY rec x := by kernel_rfl
theorem f40.s2.lok (K : Nat) : LoopsOK Try.prog 76 6 (f40.lp K) f40.s2.b := loops_ok (by
  have h : loopsIn (f40.lp K) f40.s2.b = [] := by kernel_rfl
  rw [h]; simp)
theorem f40.s2.ok (K : Nat) : SummOK Try.prog 76 6 (summOf (iter (f40.s2 K) K) f40.s2.inX f40.s2.des) f40.s2.b :=
  loop_ok mix tys_ok (f40.tabOK K) (h := f40.s2.h) (ho := f40.s2.ho) (shp := f40.s2.shp) (inX := f40.s2.inX) (des := f40.s2.des) (out := f40.s2.out) (inY := f40.s2.inY) (fuel := 400)
    (by intro st x h; unfold f40.s2.inX at h; split at h <;> simp at h; subst h; rfl)
    (by intro e st y h; unfold f40.s2.inY at h; split at h <;> simp at h <;> subst h <;> rfl)
    f40.s2.desOK (f40.s2.lok K) (f40.s2 K) (f40.s2.eq K) K
theorem f40.loops (K : Nat) : LoopsOK Try.prog 76 6 (f40.lp K) f40.c := loops_ok (by
  have h : loopsIn (f40.lp K) f40.c = [(2, f40.s2.b)] := by kernel_rfl
  rw [h]
  intro p hp
  simp only [List.mem_cons, List.not_mem_nil, or_false] at hp
  rcases hp with rfl
  · exact ⟨_, rfl, (f40.s2.ok K)⟩)
def f40.T (K : Nat) (m0_0 : List Int) (m0_1 : Int) (m0_2 : Int) (m1 : Nat) (m3 : List Int) (m4_0 : Nat) (m4_1 : List Int) : Option (f40.Ty1) :=
  (iter (f40.s2 K) K (0, m1, m0_0, m0_1, (IntKind.wrap .u64 (m0_2 + (IntKind.wrap .u64 ((m1 : Nat) : Int)))), m1, m4_0, m4_1, m3)).bind fun y15 =>
  some (y15.1, y15.2.1, y15.2.2.1, y15.2.2.2.1, y15.2.2.2.2.1, y15.2.2.2.2.2.1, y15.2.2.2.2.2.2)
def f40.F (K : Nat) (x : f40.Ty2) : Option (f40.Ty1) := f40.T K x.1 x.2.1 x.2.2.1 x.2.2.2.1 x.2.2.2.2.1 x.2.2.2.2.2.1 x.2.2.2.2.2.2
def f40.av (_x : f40.Ty2) : List VV := [.ptr 0 0, .vw true 1 0 1 2]
def f40.bl (x : f40.Ty2) : List (Nat × Blk) := [(0, ([.ptr 3 0, .ints .u8 64 x.1, .int .i64 x.2.1, .int .u64 x.2.2.1], 30, .norm)), (1, ([.vw true 4 0 x.2.2.2.1 5], 0, .ro)), (3, ([.ints .u32 8 x.2.2.2.2.1], 110, .norm)), (4, ([.ints .u8 x.2.2.2.2.2.1 x.2.2.2.2.2.2], 0, .ro))]
def f40.inA : VS → Option (f40.Ty2)
  | ⟨[(0, .ptr 0 0), (1, .vw true 1 0 1 2)], [(0, ([.ptr 3 0, .ints .u8 64 m0_0, .int .i64 m0_1, .int .u64 m0_2], 30, .norm)), (1, ([.vw true 4 0 m1 5], 0, .ro)), (3, ([.ints .u32 8 m3], 110, .norm)), (4, ([.ints .u8 m4_0 m4_1], 0, .ro))], 6⟩ => some (m0_0, m0_1, m0_2, m1, m3, m4_0, m4_1)
  | _ => none
def f40.o0 (y : f40.Ty1) : VS := ⟨[(0, .tup [])], [(0, ([.ptr 6 0, .ints .u8 64 y.1, .int .i64 y.2.1, .int .u64 y.2.2.1], 30, .norm)), (1, ([.vw true 4 0 y.2.2.2.1 5], 0, .ro)), (3, ([], 110, .dead)), (4, ([.ints .u8 y.2.2.2.2.1 y.2.2.2.2.2.1], 0, .ro)), (6, ([.ints .u32 8 y.2.2.2.2.2.2], 110, .norm))], 7⟩
def f40.des : ∀ α : Type, (f40.Ty1) → (VS → Option α) → Option α := (dv1 f40.o0)
def f40.out : f40.Ty1 → VS := f40.o0
def f40.inR : VS → Option (f40.Ty1)
  | ⟨[(0, .tup [])], [(0, ([.ptr 6 0, .ints .u8 64 z0_0, .int .i64 z0_1, .int .u64 z0_2], 30, .norm)), (1, ([.vw true 4 0 z1 5], 0, .ro)), (3, ([], 110, .dead)), (4, ([.ints .u8 z4_0 z4_1], 0, .ro)), (6, ([.ints .u32 8 z6], 110, .norm))], 7⟩ => some (z0_0, z0_1, z0_2, z1, z4_0, z4_1, z6)
  | _ => none
noncomputable def f40.E (K : Nat) : Entry := genE 6 f40.inA (f40.F K) f40.des
theorem f40.eq (K : Nat) (x : f40.Ty2) : f40.F K x = xrun (getA tys) (tabSp (f40.tab K)) Try.f40.ntmps 6 (f40.lp K) 400 f40.c ⟨initL 0 (f40.av x), f40.bl x, 6⟩ (contF (getA tys) 6 Try.f40.results.toList f40.inR) := by kernel_rfl
theorem f40.ok (K : Nat) : EntryOK Try.prog 40 (f40.E K) :=
  gen_ok mix tys_ok (f40.tabOK K) Try.func40 (by kernel_rfl : Try.f40.body = some f40.c) (by kernel_rfl) (f40.loops K) (av := f40.av) (bl := f40.bl) (out := f40.out) (fuel := 400)
    (by intro s x h; unfold f40.inA at h; split at h <;> simp at h; subst h; rfl) (fun _ => Nat.le_of_ble_eq_true rfl)
    (by intro s y h; unfold f40.inR at h; split at h <;> simp at h <;> subst h <;> rfl) (fun _ _ _ => rfl) (f40.eq K)
end Go.Proofs

namespace Go.Proofs
open Go.VM
abbrev f40v1.Ty0 := Nat × Nat × List Int × Int × Int × Nat × Nat × Nat × Nat × List Int × Nat × List Int × Nat × List Int × List Int
abbrev f40v1.Ty1 := List Int × Int × Int × Nat × Nat × Nat × Nat × List Int × Nat × List Int × Nat × List Int × List Int
abbrev f40v1.Ty2 := List Int × Int × Int × Nat × Nat × Nat × List Int × Nat × List Int × Nat × List Int × Nat × List Int
noncomputable def f40v1.c : Code := bodyOf Try.f40
def f40v1.s2t (K : Nat) (rec : f40v1.Ty0 → Option (f40v1.Ty1)) (t5_0 : Nat) (t5_1 : Nat) (b0_0 : List Int) (b0_1 : Int) (b0_2 : Int) (b1_0 : Nat) (b1_1 : Nat) (b1_2 : Nat) (b4_0 : Nat) (b4_1 : List Int) (b6_0 : Nat) (b6_1 : List Int) (b8_0 : Nat) (b8_1 : List Int) (b11 : List Int) : Option (f40v1.Ty1) :=
  bif (decide (((t5_1 : Nat) : Int) > 0)) then
    bif decide (0 ≤ b0_1 ∧ b0_1 ≤ 64) then
      let v6 := bif Nat.beq 64 (Int.toNat b0_1) then 0 else (Int.toNat b0_1)
      let v7 := 64 - (Int.toNat b0_1)
      bif (((Nat.ble (t5_0 + t5_1) b4_0 && true) && (Nat.ble (v6 + v7) 64)) && (Nat.beq t5_1 t5_1)) then
        let v9 := ((Nat.min t5_1 v7 : Nat) : Int)
        let v10 := spl b0_0 v6 (Nat.min t5_1 v7) (subI b4_1 t5_0 t5_1)
        bif decide (0 ≤ v9 ∧ v9 ≤ ((t5_1 : Nat) : Int)) then
          let v11 := t5_0 + (Int.toNat v9)
          let v12 := t5_1 - (Int.toNat v9)
          let v13 := IntKind.wrap .i64 (b0_1 + v9)
          bif (v13 == 64) then
            (f62.F K (b11, v10, v13, b0_2, b11)).bind fun y14 =>
            rec (v11, v12, y14.2.1, 0, y14.2.2.2.1, b1_0, b1_1, b1_2, b4_0, b4_1, b6_0, b6_1, b8_0, b8_1, y14.1)
          else
            rec (v11, v12, v10, v13, b0_2, b1_0, b1_1, b1_2, b4_0, b4_1, b6_0, b6_1, b8_0, b8_1, b11)
        else
          none
      else
        none
    else
      none
  else
    some (b0_0, b0_1, b0_2, b1_0, b1_1, b1_2, b4_0, b4_1, b6_0, b6_1, b8_0, b8_1, b11)
def f40v1.s2 (K : Nat) (rec : f40v1.Ty0 → Option (f40v1.Ty1)) (x : f40v1.Ty0) : Option (f40v1.Ty1) := f40v1.s2t K rec x.1 x.2.1 x.2.2.1 x.2.2.2.1 x.2.2.2.2.1 x.2.2.2.2.2.1 x.2.2.2.2.2.2.1 x.2.2.2.2.2.2.2.1 x.2.2.2.2.2.2.2.2.1 x.2.2.2.2.2.2.2.2.2.1 x.2.2.2.2.2.2.2.2.2.2.1 x.2.2.2.2.2.2.2.2.2.2.2.1 x.2.2.2.2.2.2.2.2.2.2.2.2.1 x.2.2.2.2.2.2.2.2.2.2.2.2.2.1 x.2.2.2.2.2.2.2.2.2.2.2.2.2.2
noncomputable def f40v1.s2.b : Code := (findLoop 2 f40v1.c).getD .skip
def f40v1.s2.h : Hint := { lv := [0, 5, 8, 9, 10], co := [(5, 0, [])], mv := [3] }
def f40v1.s2.ho : Hint := { lv := [0, 8, 9, 10] }
def f40v1.s2.shp (x : f40v1.Ty0) : VS := ⟨[(0, .ptr 0 0), (5, .vw true 4 x.1 x.2.1 10), (8, .vw true 1 0 3 2), (9, .int .i64 3), (10, .int .i64 0)], [(0, ([.ptr 11 0, .ints .u8 64 x.2.2.1, .int .i64 x.2.2.2.1, .int .u64 x.2.2.2.2.1], 30, .norm)), (1, ([.vw true 4 0 x.2.2.2.2.2.1 5, .vw true 6 0 x.2.2.2.2.2.2.1 7, .vw true 8 0 x.2.2.2.2.2.2.2.1 9], 0, .ro)), (3, ([], 110, .dead)), (4, ([.ints .u8 x.2.2.2.2.2.2.2.2.1 x.2.2.2.2.2.2.2.2.2.1], 0, .ro)), (6, ([.ints .u8 x.2.2.2.2.2.2.2.2.2.2.1 x.2.2.2.2.2.2.2.2.2.2.2.1], 0, .ro)), (8, ([.ints .u8 x.2.2.2.2.2.2.2.2.2.2.2.2.1 x.2.2.2.2.2.2.2.2.2.2.2.2.2.1], 0, .ro)), (11, ([.ints .u32 8 x.2.2.2.2.2.2.2.2.2.2.2.2.2.2], 110, .norm))], 12⟩
def f40v1.s2.inX : VS → Option (f40v1.Ty0)
  | ⟨[(0, .ptr 0 0), (5, .vw true 4 t5_0 t5_1 10), (8, .vw true 1 0 3 2), (9, .int .i64 3), (10, .int .i64 0)], [(0, ([.ptr 11 0, .ints .u8 64 b0_0, .int .i64 b0_1, .int .u64 b0_2], 30, .norm)), (1, ([.vw true 4 0 b1_0 5, .vw true 6 0 b1_1 7, .vw true 8 0 b1_2 9], 0, .ro)), (3, ([], 110, .dead)), (4, ([.ints .u8 b4_0 b4_1], 0, .ro)), (6, ([.ints .u8 b6_0 b6_1], 0, .ro)), (8, ([.ints .u8 b8_0 b8_1], 0, .ro)), (11, ([.ints .u32 8 b11], 110, .norm))], 12⟩ => some (t5_0, t5_1, b0_0, b0_1, b0_2, b1_0, b1_1, b1_2, b4_0, b4_1, b6_0, b6_1, b8_0, b8_1, b11)
  | _ => none
def f40v1.s2.o0 (y : f40v1.Ty1) : VS := ⟨[(0, .ptr 0 0), (8, .vw true 1 0 3 2), (9, .int .i64 3), (10, .int .i64 0)], [(0, ([.ptr 10 0, .ints .u8 64 y.1, .int .i64 y.2.1, .int .u64 y.2.2.1], 30, .norm)), (1, ([.vw true 4 0 y.2.2.2.1 5, .vw true 6 0 y.2.2.2.2.1 7, .vw true 8 0 y.2.2.2.2.2.1 9], 0, .ro)), (3, ([], 110, .dead)), (4, ([.ints .u8 y.2.2.2.2.2.2.1 y.2.2.2.2.2.2.2.1], 0, .ro)), (6, ([.ints .u8 y.2.2.2.2.2.2.2.2.1 y.2.2.2.2.2.2.2.2.2.1], 0, .ro)), (8, ([.ints .u8 y.2.2.2.2.2.2.2.2.2.2.1 y.2.2.2.2.2.2.2.2.2.2.2.1], 0, .ro)), (10, ([.ints .u32 8 y.2.2.2.2.2.2.2.2.2.2.2.2], 110, .norm))], 11⟩
def f40v1.s2.des : ∀ α : Type, (f40v1.Ty1) → (Ex → VS → Option α) → Option α := (des1 (.exit 2) f40v1.s2.o0)
def f40v1.s2.out : f40v1.Ty1 → Ex × VS := (fun y => (.exit 2, f40v1.s2.o0 y))
theorem f40v1.s2.desOK : ∀ α y (k : Ex → VS → Option α), f40v1.s2.des α y k = k (f40v1.s2.out y).1 (f40v1.s2.out y).2 := (fun _ _ _ => rfl)
def f40v1.s2.inY : Ex → VS → Option (f40v1.Ty1)
  | .exit 2, ⟨[(0, .ptr 0 0), (8, .vw true 1 0 3 2), (9, .int .i64 3), (10, .int .i64 0)], [(0, ([.ptr 10 0, .ints .u8 64 b0_0, .int .i64 b0_1, .int .u64 b0_2], 30, .norm)), (1, ([.vw true 4 0 b1_0 5, .vw true 6 0 b1_1 7, .vw true 8 0 b1_2 9], 0, .ro)), (3, ([], 110, .dead)), (4, ([.ints .u8 b4_0 b4_1], 0, .ro)), (6, ([.ints .u8 b6_0 b6_1], 0, .ro)), (8, ([.ints .u8 b8_0 b8_1], 0, .ro)), (10, ([.ints .u32 8 b10], 110, .norm))], 11⟩ => some (b0_0, b0_1, b0_2, b1_0, b1_1, b1_2, b4_0, b4_1, b6_0, b6_1, b8_0, b8_1, b10)
  | _, _ => none
def f40v1.s2bt (K : Nat) (rec : f40v1.Ty0 → Option (f40v1.Ty1)) (t5_0 : Nat) (t5_1 : Nat) (b0_0 : List Int) (b0_1 : Int) (b0_2 : Int) (b1_0 : Nat) (b1_1 : Nat) (b1_2 : Nat) (b4_0 : Nat) (b4_1 : List Int) (b6_0 : Nat) (b6_1 : List Int) (b8_0 : Nat) (b8_1 : List Int) (b11 : List Int) : Option (f40v1.Ty1) :=
  bif (decide (((t5_1 : Nat) : Int) > 0)) then
    bif decide (0 ≤ b0_1 ∧ b0_1 ≤ 64) then
      let v22 := bif Nat.beq 64 (Int.toNat b0_1) then 0 else (Int.toNat b0_1)
      let v23 := 64 - (Int.toNat b0_1)
      bif (((Nat.ble (t5_0 + t5_1) b6_0 && true) && (Nat.ble (v22 + v23) 64)) && (Nat.beq t5_1 t5_1)) then
        let v25 := ((Nat.min t5_1 v23 : Nat) : Int)
        let v26 := spl b0_0 v22 (Nat.min t5_1 v23) (subI b6_1 t5_0 t5_1)
        bif decide (0 ≤ v25 ∧ v25 ≤ ((t5_1 : Nat) : Int)) then
          let v27 := t5_0 + (Int.toNat v25)
          let v28 := t5_1 - (Int.toNat v25)
          let v29 := IntKind.wrap .i64 (b0_1 + v25)
          bif (v29 == 64) then
            (f62.F K (b11, v26, v29, b0_2, b11)).bind fun y30 =>
            rec (v27, v28, y30.2.1, 0, y30.2.2.2.1, b1_0, b1_1, b1_2, b4_0, b4_1, b6_0, b6_1, b8_0, b8_1, y30.1)
          else
            rec (v27, v28, v26, v29, b0_2, b1_0, b1_1, b1_2, b4_0, b4_1, b6_0, b6_1, b8_0, b8_1, b11)
        else
          none
      else
        none
    else
      none
  else
    some (b0_0, b0_1, b0_2, b1_0, b1_1, b1_2, b4_0, b4_1, b6_0, b6_1, b8_0, b8_1, b11)
def f40v1.s2b (K : Nat) (rec : f40v1.Ty0 → Option (f40v1.Ty1)) (x : f40v1.Ty0) : Option (f40v1.Ty1) := f40v1.s2bt K rec x.1 x.2.1 x.2.2.1 x.2.2.2.1 x.2.2.2.2.1 x.2.2.2.2.2.1 x.2.2.2.2.2.2.1 x.2.2.2.2.2.2.2.1 x.2.2.2.2.2.2.2.2.1 x.2.2.2.2.2.2.2.2.2.1 x.2.2.2.2.2.2.2.2.2.2.1 x.2.2.2.2.2.2.2.2.2.2.2.1 x.2.2.2.2.2.2.2.2.2.2.2.2.1 x.2.2.2.2.2.2.2.2.2.2.2.2.2.1 x.2.2.2.2.2.2.2.2.2.2.2.2.2.2
noncomputable def f40v1.s2b.b : Code := (findLoop 2 f40v1.c).getD .skip
def f40v1.s2b.h : Hint := { lv := [0, 5, 8, 9, 10], co := [(5, 0, [])], mv := [3] }
def f40v1.s2b.ho : Hint := { lv := [0, 8, 9, 10] }
def f40v1.s2b.shp (x : f40v1.Ty0) : VS := ⟨[(0, .ptr 0 0), (5, .vw true 6 x.1 x.2.1 10), (8, .vw true 1 0 3 2), (9, .int .i64 3), (10, .int .i64 1)], [(0, ([.ptr 11 0, .ints .u8 64 x.2.2.1, .int .i64 x.2.2.2.1, .int .u64 x.2.2.2.2.1], 30, .norm)), (1, ([.vw true 4 0 x.2.2.2.2.2.1 5, .vw true 6 0 x.2.2.2.2.2.2.1 7, .vw true 8 0 x.2.2.2.2.2.2.2.1 9], 0, .ro)), (3, ([], 110, .dead)), (4, ([.ints .u8 x.2.2.2.2.2.2.2.2.1 x.2.2.2.2.2.2.2.2.2.1], 0, .ro)), (6, ([.ints .u8 x.2.2.2.2.2.2.2.2.2.2.1 x.2.2.2.2.2.2.2.2.2.2.2.1], 0, .ro)), (8, ([.ints .u8 x.2.2.2.2.2.2.2.2.2.2.2.2.1 x.2.2.2.2.2.2.2.2.2.2.2.2.2.1], 0, .ro)), (11, ([.ints .u32 8 x.2.2.2.2.2.2.2.2.2.2.2.2.2.2], 110, .norm))], 12⟩
def f40v1.s2b.inX : VS → Option (f40v1.Ty0)
  | ⟨[(0, .ptr 0 0), (5, .vw true 6 t5_0 t5_1 10), (8, .vw true 1 0 3 2), (9, .int .i64 3), (10, .int .i64 1)], [(0, ([.ptr 11 0, .ints .u8 64 b0_0, .int .i64 b0_1, .int .u64 b0_2], 30, .norm)), (1, ([.vw true 4 0 b1_0 5, .vw true 6 0 b1_1 7, .vw true 8 0 b1_2 9], 0, .ro)), (3, ([], 110, .dead)), (4, ([.ints .u8 b4_0 b4_1], 0, .ro)), (6, ([.ints .u8 b6_0 b6_1], 0, .ro)), (8, ([.ints .u8 b8_0 b8_1], 0, .ro)), (11, ([.ints .u32 8 b11], 110, .norm))], 12⟩ => some (t5_0, t5_1, b0_0, b0_1, b0_2, b1_0, b1_1, b1_2, b4_0, b4_1, b6_0, b6_1, b8_0, b8_1, b11)
  | _ => none
def f40v1.s2b.o0 (y : f40v1.Ty1) : VS := ⟨[(0, .ptr 0 0), (8, .vw true 1 0 3 2), (9, .int .i64 3), (10, .int .i64 1)], [(0, ([.ptr 10 0, .ints .u8 64 y.1, .int .i64 y.2.1, .int .u64 y.2.2.1], 30, .norm)), (1, ([.vw true 4 0 y.2.2.2.1 5, .vw true 6 0 y.2.2.2.2.1 7, .vw true 8 0 y.2.2.2.2.2.1 9], 0, .ro)), (3, ([], 110, .dead)), (4, ([.ints .u8 y.2.2.2.2.2.2.1 y.2.2.2.2.2.2.2.1], 0, .ro)), (6, ([.ints .u8 y.2.2.2.2.2.2.2.2.1 y.2.2.2.2.2.2.2.2.2.1], 0, .ro)), (8, ([.ints .u8 y.2.2.2.2.2.2.2.2.2.2.1 y.2.2.2.2.2.2.2.2.2.2.2.1], 0, .ro)), (10, ([.ints .u32 8 y.2.2.2.2.2.2.2.2.2.2.2.2], 110, .norm))], 11⟩
def f40v1.s2b.des : ∀ α : Type, (f40v1.Ty1) → (Ex → VS → Option α) → Option α := (des1 (.exit 2) f40v1.s2b.o0)
def f40v1.s2b.out : f40v1.Ty1 → Ex × VS := (fun y => (.exit 2, f40v1.s2b.o0 y))
theorem f40v1.s2b.desOK : ∀ α y (k : Ex → VS → Option α), f40v1.s2b.des α y k = k (f40v1.s2b.out y).1 (f40v1.s2b.out y).2 := (fun _ _ _ => rfl)
def f40v1.s2b.inY : Ex → VS → Option (f40v1.Ty1)
  | .exit 2, ⟨[(0, .ptr 0 0), (8, .vw true 1 0 3 2), (9, .int .i64 3), (10, .int .i64 1)], [(0, ([.ptr 10 0, .ints .u8 64 b0_0, .int .i64 b0_1, .int .u64 b0_2], 30, .norm)), (1, ([.vw true 4 0 b1_0 5, .vw true 6 0 b1_1 7, .vw true 8 0 b1_2 9], 0, .ro)), (3, ([], 110, .dead)), (4, ([.ints .u8 b4_0 b4_1], 0, .ro)), (6, ([.ints .u8 b6_0 b6_1], 0, .ro)), (8, ([.ints .u8 b8_0 b8_1], 0, .ro)), (10, ([.ints .u32 8 b10], 110, .norm))], 11⟩ => some (b0_0, b0_1, b0_2, b1_0, b1_1, b1_2, b4_0, b4_1, b6_0, b6_1, b8_0, b8_1, b10)
  | _, _ => none
def f40v1.s2ct (K : Nat) (rec : f40v1.Ty0 → Option (f40v1.Ty1)) (t5_0 : Nat) (t5_1 : Nat) (b0_0 : List Int) (b0_1 : Int) (b0_2 : Int) (b1_0 : Nat) (b1_1 : Nat) (b1_2 : Nat) (b4_0 : Nat) (b4_1 : List Int) (b6_0 : Nat) (b6_1 : List Int) (b8_0 : Nat) (b8_1 : List Int) (b11 : List Int) : Option (f40v1.Ty1) :=
  bif (decide (((t5_1 : Nat) : Int) > 0)) then
    bif decide (0 ≤ b0_1 ∧ b0_1 ≤ 64) then
      let v38 := bif Nat.beq 64 (Int.toNat b0_1) then 0 else (Int.toNat b0_1)
      let v39 := 64 - (Int.toNat b0_1)
      bif (((Nat.ble (t5_0 + t5_1) b8_0 && true) && (Nat.ble (v38 + v39) 64)) && (Nat.beq t5_1 t5_1)) then
        let v41 := ((Nat.min t5_1 v39 : Nat) : Int)
        let v42 := spl b0_0 v38 (Nat.min t5_1 v39) (subI b8_1 t5_0 t5_1)
        bif decide (0 ≤ v41 ∧ v41 ≤ ((t5_1 : Nat) : Int)) then
          let v43 := t5_0 + (Int.toNat v41)
          let v44 := t5_1 - (Int.toNat v41)
          let v45 := IntKind.wrap .i64 (b0_1 + v41)
          bif (v45 == 64) then
            (f62.F K (b11, v42, v45, b0_2, b11)).bind fun y46 =>
            rec (v43, v44, y46.2.1, 0, y46.2.2.2.1, b1_0, b1_1, b1_2, b4_0, b4_1, b6_0, b6_1, b8_0, b8_1, y46.1)
          else
            rec (v43, v44, v42, v45, b0_2, b1_0, b1_1, b1_2, b4_0, b4_1, b6_0, b6_1, b8_0, b8_1, b11)
        else
          none
      else
        none
    else
      none
  else
    some (b0_0, b0_1, b0_2, b1_0, b1_1, b1_2, b4_0, b4_1, b6_0, b6_1, b8_0, b8_1, b11)
def f40v1.s2c (K : Nat) (rec : f40v1.Ty0 → Option (f40v1.Ty1)) (x : f40v1.Ty0) : Option (f40v1.Ty1) := f40v1.s2ct K rec x.1 x.2.1 x.2.2.1 x.2.2.2.1 x.2.2.2.2.1 x.2.2.2.2.2.1 x.2.2.2.2.2.2.1 x.2.2.2.2.2.2.2.1 x.2.2.2.2.2.2.2.2.1 x.2.2.2.2.2.2.2.2.2.1 x.2.2.2.2.2.2.2.2.2.2.1 x.2.2.2.2.2.2.2.2.2.2.2.1 x.2.2.2.2.2.2.2.2.2.2.2.2.1 x.2.2.2.2.2.2.2.2.2.2.2.2.2.1 x.2.2.2.2.2.2.2.2.2.2.2.2.2.2
noncomputable def f40v1.s2c.b : Code := (findLoop 2 f40v1.c).getD .skip
def f40v1.s2c.h : Hint := { lv := [0, 5, 8, 9, 10], co := [(5, 0, [])], mv := [3] }
def f40v1.s2c.ho : Hint := { lv := [0, 8, 9, 10] }
def f40v1.s2c.shp (x : f40v1.Ty0) : VS := ⟨[(0, .ptr 0 0), (5, .vw true 8 x.1 x.2.1 10), (8, .vw true 1 0 3 2), (9, .int .i64 3), (10, .int .i64 2)], [(0, ([.ptr 11 0, .ints .u8 64 x.2.2.1, .int .i64 x.2.2.2.1, .int .u64 x.2.2.2.2.1], 30, .norm)), (1, ([.vw true 4 0 x.2.2.2.2.2.1 5, .vw true 6 0 x.2.2.2.2.2.2.1 7, .vw true 8 0 x.2.2.2.2.2.2.2.1 9], 0, .ro)), (3, ([], 110, .dead)), (4, ([.ints .u8 x.2.2.2.2.2.2.2.2.1 x.2.2.2.2.2.2.2.2.2.1], 0, .ro)), (6, ([.ints .u8 x.2.2.2.2.2.2.2.2.2.2.1 x.2.2.2.2.2.2.2.2.2.2.2.1], 0, .ro)), (8, ([.ints .u8 x.2.2.2.2.2.2.2.2.2.2.2.2.1 x.2.2.2.2.2.2.2.2.2.2.2.2.2.1], 0, .ro)), (11, ([.ints .u32 8 x.2.2.2.2.2.2.2.2.2.2.2.2.2.2], 110, .norm))], 12⟩
def f40v1.s2c.inX : VS → Option (f40v1.Ty0)
  | ⟨[(0, .ptr 0 0), (5, .vw true 8 t5_0 t5_1 10), (8, .vw true 1 0 3 2), (9, .int .i64 3), (10, .int .i64 2)], [(0, ([.ptr 11 0, .ints .u8 64 b0_0, .int .i64 b0_1, .int .u64 b0_2], 30, .norm)), (1, ([.vw true 4 0 b1_0 5, .vw true 6 0 b1_1 7, .vw true 8 0 b1_2 9], 0, .ro)), (3, ([], 110, .dead)), (4, ([.ints .u8 b4_0 b4_1], 0, .ro)), (6, ([.ints .u8 b6_0 b6_1], 0, .ro)), (8, ([.ints .u8 b8_0 b8_1], 0, .ro)), (11, ([.ints .u32 8 b11], 110, .norm))], 12⟩ => some (t5_0, t5_1, b0_0, b0_1, b0_2, b1_0, b1_1, b1_2, b4_0, b4_1, b6_0, b6_1, b8_0, b8_1, b11)
  | _ => none
def f40v1.s2c.o0 (y : f40v1.Ty1) : VS := ⟨[(0, .ptr 0 0), (8, .vw true 1 0 3 2), (9, .int .i64 3), (10, .int .i64 2)], [(0, ([.ptr 10 0, .ints .u8 64 y.1, .int .i64 y.2.1, .int .u64 y.2.2.1], 30, .norm)), (1, ([.vw true 4 0 y.2.2.2.1 5, .vw true 6 0 y.2.2.2.2.1 7, .vw true 8 0 y.2.2.2.2.2.1 9], 0, .ro)), (3, ([], 110, .dead)), (4, ([.ints .u8 y.2.2.2.2.2.2.1 y.2.2.2.2.2.2.2.1], 0, .ro)), (6, ([.ints .u8 y.2.2.2.2.2.2.2.2.1 y.2.2.2.2.2.2.2.2.2.1], 0, .ro)), (8, ([.ints .u8 y.2.2.2.2.2.2.2.2.2.2.1 y.2.2.2.2.2.2.2.2.2.2.2.1], 0, .ro)), (10, ([.ints .u32 8 y.2.2.2.2.2.2.2.2.2.2.2.2], 110, .norm))], 11⟩
def f40v1.s2c.des : ∀ α : Type, (f40v1.Ty1) → (Ex → VS → Option α) → Option α := (des1 (.exit 2) f40v1.s2c.o0)
def f40v1.s2c.out : f40v1.Ty1 → Ex × VS := (fun y => (.exit 2, f40v1.s2c.o0 y))
theorem f40v1.s2c.desOK : ∀ α y (k : Ex → VS → Option α), f40v1.s2c.des α y k = k (f40v1.s2c.out y).1 (f40v1.s2c.out y).2 := (fun _ _ _ => rfl)
def f40v1.s2c.inY : Ex → VS → Option (f40v1.Ty1)
  | .exit 2, ⟨[(0, .ptr 0 0), (8, .vw true 1 0 3 2), (9, .int .i64 3), (10, .int .i64 2)], [(0, ([.ptr 10 0, .ints .u8 64 b0_0, .int .i64 b0_1, .int .u64 b0_2], 30, .norm)), (1, ([.vw true 4 0 b1_0 5, .vw true 6 0 b1_1 7, .vw true 8 0 b1_2 9], 0, .ro)), (3, ([], 110, .dead)), (4, ([.ints .u8 b4_0 b4_1], 0, .ro)), (6, ([.ints .u8 b6_0 b6_1], 0, .ro)), (8, ([.ints .u8 b8_0 b8_1], 0, .ro)), (10, ([.ints .u32 8 b10], 110, .norm))], 11⟩ => some (b0_0, b0_1, b0_2, b1_0, b1_1, b1_2, b4_0, b4_1, b6_0, b6_1, b8_0, b8_1, b10)
  | _, _ => none
def f40v1.lp (K : Nat) : Nat → Option (Hint × Summ) := tabLp [(2, f40v1.s2.h, summOr f40v1.s2.inX (summOf (iter (f40v1.s2 K) K) f40v1.s2.inX f40v1.s2.des) (summOr f40v1.s2b.inX (summOf (iter (f40v1.s2b K) K) f40v1.s2b.inX f40v1.s2b.des) (summOf (iter (f40v1.s2c K) K) f40v1.s2c.inX f40v1.s2c.des)))]
noncomputable def f40v1.tab (K : Nat) : List (Nat × Entry) := [(62, (f62.E K))]
theorem f40v1.tabOK (K : Nat) : SpecOK Try.prog (tabSp (f40v1.tab K)) := tab_ok ((tab_cons (f62.ok K) tab_nil))
theorem f40v1.s2.eq (K : Nat) (rec : f40v1.Ty0 → Option (f40v1.Ty1)) (x : f40v1.Ty0) : f40v1.s2 K rec x = roundL (getA tys) (tabSp (f40v1.tab K)) 76 10 (f40v1.lp K) 400 f40v1.s2.b f40v1.s2.h f40v1.s2.ho f40v1.s2.shp f40v1.s2.inX f40v1.s2.inY rec x := by kernel_rfl
theorem f40v1.s2.lok (K : Nat) : LoopsOK Try.prog 76 10 (f40v1.lp K) f40v1.s2.b := loops_ok (by
  have h : loopsIn (f40v1.lp K) f40v1.s2.b = [] := by kernel_rfl
  rw [h]; simp)
theorem f40v1.s2.ok (K : Nat) : SummOK Try.prog 76 10 (summOf (iter (f40v1.s2 K) K) f40v1.s2.inX f40v1.s2.des) f40v1.s2.b :=
  loop_ok mix tys_ok (f40v1.tabOK K) (h := f40v1.s2.h) (ho := f40v1.s2.ho) (shp := f40v1.s2.shp) (inX := f40v1.s2.inX) (des := f40v1.s2.des) (out := f40v1.s2.out) (inY := f40v1.s2.inY) (fuel := 400)
    (by intro st x h; unfold f40v1.s2.inX at h; split at h <;> simp at h; subst h; rfl)
    (by intro e st y h; unfold f40v1.s2.inY at h; split at h <;> simp at h <;> subst h <;> rfl)
    f40v1.s2.desOK (f40v1.s2.lok K) (f40v1.s2 K) (f40v1.s2.eq K) K
theorem f40v1.s2b.eq (K : Nat) (rec : f40v1.Ty0 → Option (f40v1.Ty1)) (x : f40v1.Ty0) : f40v1.s2b K rec x = roundL (getA tys) (tabSp (f40v1.tab K)) 76 10 (f40v1.lp K) 400 f40v1.s2b.b f40v1.s2b.h f40v1.s2b.ho f40v1.s2b.shp f40v1.s2b.inX f40v1.s2b.inY rec x := by kernel_rfl
theorem f40v1.s2b.lok (K : Nat) : LoopsOK Try.prog 76 10 (f40v1.lp K) f40v1.s2b.b := loops_ok (by
  have h : loopsIn (f40v1.lp K) f40v1.s2b.b = [] := by kernel_rfl
  rw [h]; simp)
theorem f40v1.s2b.ok (K : Nat) : SummOK Try.prog 76 10 (summOf (iter (f40v1.s2b K) K) f40v1.s2b.inX f40v1.s2b.des) f40v1.s2b.b :=
  loop_ok mix tys_ok (f40v1.tabOK K) (h := f40v1.s2b.h) (ho := f40v1.s2b.ho) (shp := f40v1.s2b.shp) (inX := f40v1.s2b.inX) (des := f40v1.s2b.des) (out := f40v1.s2b.out) (inY := f40v1.s2b.inY) (fuel := 400)
    (by intro st x h; unfold f40v1.s2b.inX at h; split at h <;> simp at h; subst h; rfl)
    (by intro e st y h; unfold f40v1.s2b.inY at h; split at h <;> simp at h <;> subst h <;> rfl)
    f40v1.s2b.desOK (f40v1.s2b.lok K) (f40v1.s2b K) (f40v1.s2b.eq K) K
theorem f40v1.s2c.eq (K : Nat) (rec : f40v1.Ty0 → Option (f40v1.Ty1)) (x : f40v1.Ty0) : f40v1.s2c K rec x = roundL (getA tys) (tabSp (f40v1.tab K)) 76 10 (f40v1.lp K) 400 f40v1.s2c.b f40v1.s2c.h f40v1.s2c.ho f40v1.s2c.shp f40v1.s2c.inX f40v1.s2c.inY rec x := by kernel_rfl
theorem f40v1.s2c.lok (K : Nat) : LoopsOK Try.prog 76 10 (f40v1.lp K) f40v1.s2c.b := loops_ok (by
  have h : loopsIn (f40v1.lp K) f40v1.s2c.b = [] := by kernel_rfl
  rw [h]; simp)
theorem f40v1.s2c.ok (K : Nat) : SummOK Try.prog 76 10 (summOf (iter (f40v1.s2c K) K) f40v1.s2c.inX f40v1.s2c.des) f40v1.s2c.b :=
  loop_ok mix tys_ok (f40v1.tabOK K) (h := f40v1.s2c.h) (ho := f40v1.s2c.ho) (shp := f40v1.s2c.shp) (inX := f40v1.s2c.inX) (des := f40v1.s2c.des) (out := f40v1.s2c.out) (inY := f40v1.s2c.inY) (fuel := 400)
    (by intro st x h; unfold f40v1.s2c.inX at h; split at h <;> simp at h; subst h; rfl)
    (by intro e st y h; unfold f40v1.s2c.inY at h; split at h <;> simp at h <;> subst h <;> rfl)
    f40v1.s2c.desOK (f40v1.s2c.lok K) (f40v1.s2c K) (f40v1.s2c.eq K) K
theorem f40v1.loops (K : Nat) : LoopsOK Try.prog 76 10 (f40v1.lp K) f40v1.c := loops_ok (by
  have h : loopsIn (f40v1.lp K) f40v1.c = [(2, f40v1.s2.b)] := by kernel_rfl
  rw [h]
  intro p hp
  simp only [List.mem_cons, List.not_mem_nil, or_false] at hp
  rcases hp with rfl
  · exact ⟨_, rfl, (summOr_ok (f40v1.s2.ok K) (summOr_ok (f40v1.s2b.ok K) (f40v1.s2c.ok K)))⟩)
def f40v1.T (K : Nat) (m0_0 : List Int) (m0_1 : Int) (m0_2 : Int) (m1_0 : Nat) (m1_1 : Nat) (m1_2 : Nat) (m3 : List Int) (m4_0 : Nat) (m4_1 : List Int) (m6_0 : Nat) (m6_1 : List Int) (m8_0 : Nat) (m8_1 : List Int) : Option (f40v1.Ty1) :=
  (iter (f40v1.s2 K) K (0, m1_0, m0_0, m0_1, (IntKind.wrap .u64 (m0_2 + (IntKind.wrap .u64 ((m1_0 : Nat) : Int)))), m1_0, m1_1, m1_2, m4_0, m4_1, m6_0, m6_1, m8_0, m8_1, m3)).bind fun y15 =>
  let v16 := y15.2.2.2.2.1
  (iter (f40v1.s2b K) K (0, v16, y15.1, y15.2.1, (IntKind.wrap .u64 (y15.2.2.1 + (IntKind.wrap .u64 ((v16 : Nat) : Int)))), y15.2.2.2.1, y15.2.2.2.2.1, y15.2.2.2.2.2.1, y15.2.2.2.2.2.2.1, y15.2.2.2.2.2.2.2.1, y15.2.2.2.2.2.2.2.2.1, y15.2.2.2.2.2.2.2.2.2.1, y15.2.2.2.2.2.2.2.2.2.2.1, y15.2.2.2.2.2.2.2.2.2.2.2.1, y15.2.2.2.2.2.2.2.2.2.2.2.2)).bind fun y31 =>
  let v32 := y31.2.2.2.2.2.1
  (iter (f40v1.s2c K) K (0, v32, y31.1, y31.2.1, (IntKind.wrap .u64 (y31.2.2.1 + (IntKind.wrap .u64 ((v32 : Nat) : Int)))), y31.2.2.2.1, y31.2.2.2.2.1, y31.2.2.2.2.2.1, y31.2.2.2.2.2.2.1, y31.2.2.2.2.2.2.2.1, y31.2.2.2.2.2.2.2.2.1, y31.2.2.2.2.2.2.2.2.2.1, y31.2.2.2.2.2.2.2.2.2.2.1, y31.2.2.2.2.2.2.2.2.2.2.2.1, y31.2.2.2.2.2.2.2.2.2.2.2.2)).bind fun y47 =>
  some (y47.1, y47.2.1, y47.2.2.1, y47.2.2.2.1, y47.2.2.2.2.1, y47.2.2.2.2.2.1, y47.2.2.2.2.2.2.1, y47.2.2.2.2.2.2.2.1, y47.2.2.2.2.2.2.2.2.1, y47.2.2.2.2.2.2.2.2.2.1, y47.2.2.2.2.2.2.2.2.2.2.1, y47.2.2.2.2.2.2.2.2.2.2.2.1, y47.2.2.2.2.2.2.2.2.2.2.2.2)
def f40v1.F (K : Nat) (x : f40v1.Ty2) : Option (f40v1.Ty1) := f40v1.T K x.1 x.2.1 x.2.2.1 x.2.2.2.1 x.2.2.2.2.1 x.2.2.2.2.2.1 x.2.2.2.2.2.2.1 x.2.2.2.2.2.2.2.1 x.2.2.2.2.2.2.2.2.1 x.2.2.2.2.2.2.2.2.2.1 x.2.2.2.2.2.2.2.2.2.2.1 x.2.2.2.2.2.2.2.2.2.2.2.1 x.2.2.2.2.2.2.2.2.2.2.2.2
def f40v1.av (_x : f40v1.Ty2) : List VV := [.ptr 0 0, .vw true 1 0 3 2]
def f40v1.bl (x : f40v1.Ty2) : List (Nat × Blk) := [(0, ([.ptr 3 0, .ints .u8 64 x.1, .int .i64 x.2.1, .int .u64 x.2.2.1], 30, .norm)), (1, ([.vw true 4 0 x.2.2.2.1 5, .vw true 6 0 x.2.2.2.2.1 7, .vw true 8 0 x.2.2.2.2.2.1 9], 0, .ro)), (3, ([.ints .u32 8 x.2.2.2.2.2.2.1], 110, .norm)), (4, ([.ints .u8 x.2.2.2.2.2.2.2.1 x.2.2.2.2.2.2.2.2.1], 0, .ro)), (6, ([.ints .u8 x.2.2.2.2.2.2.2.2.2.1 x.2.2.2.2.2.2.2.2.2.2.1], 0, .ro)), (8, ([.ints .u8 x.2.2.2.2.2.2.2.2.2.2.2.1 x.2.2.2.2.2.2.2.2.2.2.2.2], 0, .ro))]
def f40v1.inA : VS → Option (f40v1.Ty2)
  | ⟨[(0, .ptr 0 0), (1, .vw true 1 0 3 2)], [(0, ([.ptr 3 0, .ints .u8 64 m0_0, .int .i64 m0_1, .int .u64 m0_2], 30, .norm)), (1, ([.vw true 4 0 m1_0 5, .vw true 6 0 m1_1 7, .vw true 8 0 m1_2 9], 0, .ro)), (3, ([.ints .u32 8 m3], 110, .norm)), (4, ([.ints .u8 m4_0 m4_1], 0, .ro)), (6, ([.ints .u8 m6_0 m6_1], 0, .ro)), (8, ([.ints .u8 m8_0 m8_1], 0, .ro))], 10⟩ => some (m0_0, m0_1, m0_2, m1_0, m1_1, m1_2, m3, m4_0, m4_1, m6_0, m6_1, m8_0, m8_1)
  | _ => none
def f40v1.o0 (y : f40v1.Ty1) : VS := ⟨[(0, .tup [])], [(0, ([.ptr 10 0, .ints .u8 64 y.1, .int .i64 y.2.1, .int .u64 y.2.2.1], 30, .norm)), (1, ([.vw true 4 0 y.2.2.2.1 5, .vw true 6 0 y.2.2.2.2.1 7, .vw true 8 0 y.2.2.2.2.2.1 9], 0, .ro)), (3, ([], 110, .dead)), (4, ([.ints .u8 y.2.2.2.2.2.2.1 y.2.2.2.2.2.2.2.1], 0, .ro)), (6, ([.ints .u8 y.2.2.2.2.2.2.2.2.1 y.2.2.2.2.2.2.2.2.2.1], 0, .ro)), (8, ([.ints .u8 y.2.2.2.2.2.2.2.2.2.2.1 y.2.2.2.2.2.2.2.2.2.2.2.1], 0, .ro)), (10, ([.ints .u32 8 y.2.2.2.2.2.2.2.2.2.2.2.2], 110, .norm))], 11⟩
def f40v1.des : ∀ α : Type, (f40v1.Ty1) → (VS → Option α) → Option α := (dv1 f40v1.o0)
def f40v1.out : f40v1.Ty1 → VS := f40v1.o0
def f40v1.inR : VS → Option (f40v1.Ty1)
  | ⟨[(0, .tup [])], [(0, ([.ptr 10 0, .ints .u8 64 z0_0, .int .i64 z0_1, .int .u64 z0_2], 30, .norm)), (1, ([.vw true 4 0 z1_0 5, .vw true 6 0 z1_1 7, .vw true 8 0 z1_2 9], 0, .ro)), (3, ([], 110, .dead)), (4, ([.ints .u8 z4_0 z4_1], 0, .ro)), (6, ([.ints .u8 z6_0 z6_1], 0, .ro)), (8, ([.ints .u8 z8_0 z8_1], 0, .ro)), (10, ([.ints .u32 8 z10], 110, .norm))], 11⟩ => some (z0_0, z0_1, z0_2, z1_0, z1_1, z1_2, z4_0, z4_1, z6_0, z6_1, z8_0, z8_1, z10)
  | _ => none
noncomputable def f40v1.E (K : Nat) : Entry := genE 10 f40v1.inA (f40v1.F K) f40v1.des
theorem f40v1.eq (K : Nat) (x : f40v1.Ty2) : f40v1.F K x = xrun (getA tys) (tabSp (f40v1.tab K)) Try.f40.ntmps 10 (f40v1.lp K) 400 f40v1.c ⟨initL 0 (f40v1.av x), f40v1.bl x, 10⟩ (contF (getA tys) 10 Try.f40.results.toList f40v1.inR) := by kernel_rfl
theorem f40v1.ok (K : Nat) : EntryOK Try.prog 40 (f40v1.E K) :=
  gen_ok mix tys_ok (f40v1.tabOK K) Try.func40 (by kernel_rfl : Try.f40.body = some f40v1.c) (by kernel_rfl) (f40v1.loops K) (av := f40v1.av) (bl := f40v1.bl) (out := f40v1.out) (fuel := 400)
    (by intro s x h; unfold f40v1.inA at h; split at h <;> simp at h; subst h; rfl) (fun _ => Nat.le_of_ble_eq_true rfl)
    (by intro s y h; unfold f40v1.inR at h; split at h <;> simp at h <;> subst h <;> rfl) (fun _ _ _ => rfl) (f40v1.eq K)
end Go.Proofs

namespace Go.Proofs
open Go.VM
def Sh.init : List Int := [1779033703, 3144134277, 1013904242, 2773480762, 1359893119, 2600822924, 528734635, 1541459225]
def Sh.chain (m : List Int) : Nat → List Int
  | 0 => Sh.init
  | n + 1 => Sh.comp (Sh.chain m n) ((m.drop (64 * n)).take 64)
theorem Sh.chain_append (m q : List Int) : ∀ n, 64 * n ≤ m.length → Sh.chain (m ++ q) n = Sh.chain m n
  | 0, _ => rfl
  | n + 1, h => by
    rw [Sh.chain, Sh.chain, Sh.chain_append m q n (by omega), List.drop_append_of_le_length (by omega), List.take_append_of_le_length (by simp; omega)]
structure Sh.Rep (m : List Int) (b : List Int) (h : Int) (s : List Int) : Prop where
  len : b.length = 64
  oct : octets b
  held : h = ((m.length % 64 : Nat) : Int)
  rest : b.take (m.length % 64) = m.drop (64 * (m.length / 64))
  st : s = Sh.chain m (m.length / 64)
theorem padT_take (l : List Int) (n : Nat) (h : n ≤ l.length) : padT l n = l.take n := by
  have := subI_cut l 0 n (by omega)
  rw [List.drop_zero] at this
  rw [← this]
  simp [padT, subI]
theorem Sh.Rep.block {m b s : List Int} {h : Int} (R : Sh.Rep m b h s) (q L : List Int) (k : Nat) (hk : q.length = k) (hL : L.take k = q) (hle : k ≤ L.length) (hr : m.length % 64 + k ≤ 64) :
    spl b (m.length % 64) k L = m.drop (64 * (m.length / 64)) ++ q ++ b.drop (m.length % 64 + k) := by
  rw [spl, padT_take b _ (by have := R.len; omega), padT_take L k hle, hL, R.rest]
theorem Sh.Rep.some {m b s : List Int} {h : Int} (R : Sh.Rep m b h s) (q L : List Int) (k : Nat) (hk : q.length = k) (ho : octets L) (hL : L.take k = q) (hle : k ≤ L.length) (hr : m.length % 64 + k < 64) :
    Sh.Rep (m ++ q) (spl b (m.length % 64) k L) (h + k) s := by
  have e := R.block q L k hk hL hle (by omega)
  have l1 : (m ++ q).length / 64 = m.length / 64 := by rw [List.length_append]; omega
  have l2 : (m ++ q).length % 64 = m.length % 64 + k := by rw [List.length_append]; omega
  have d : (m.drop (64 * (m.length / 64))).length = m.length % 64 := by rw [List.length_drop]; omega
  refine ⟨?_, octets_spl R.oct ho _ _, ?_, ?_, ?_⟩
  · have dd : (b.drop (m.length % 64 + k)).length = 64 - (m.length % 64 + k) := by rw [List.length_drop, R.len]
    rw [e, List.length_append, List.length_append, dd, d, hk]; omega
  · rw [R.held, l2]; omega
  · rw [l1, l2, e, List.take_append_of_le_length (by rw [List.length_append, d]; omega), List.take_of_length_le (by rw [List.length_append, d]; omega), List.drop_append_of_le_length (by omega)]
  · rw [l1, Sh.chain_append _ _ _ (by omega)]; exact R.st
end Go.Proofs

namespace Go.Proofs
open Go.VM
abbrev f42.Ty0 := List Int × Int × Int × List Int
def f42.T (_K : Nat)  : Option (f42.Ty0) :=
  some ([0, 0, 0, 0, 0, 0, 0, 0, 0, 0, 0, 0, 0, 0, 0, 0, 0, 0, 0, 0, 0, 0, 0, 0, 0, 0, 0, 0, 0, 0, 0, 0, 0, 0, 0, 0, 0, 0, 0, 0, 0, 0, 0, 0, 0, 0, 0, 0, 0, 0, 0, 0, 0, 0, 0, 0, 0, 0, 0, 0, 0, 0, 0, 0], 0, 0, [1779033703, 3144134277, 1013904242, 2773480762, 1359893119, 2600822924, 528734635, 1541459225])
def f42.F (K : Nat) (_x : Unit) : Option (f42.Ty0) := f42.T K
def f42.av (_x : Unit) : List VV := []
def f42.bl (_x : Unit) : List (Nat × Blk) := []
def f42.inA : VS → Option (Unit)
  | ⟨[], [], 0⟩ => some ()
  | _ => none
def f42.o0 (y : f42.Ty0) : VS := ⟨[(0, .ptr 0 0)], [(0, ([.ptr 1 0, .ints .u8 64 y.1, .int .i64 y.2.1, .int .u64 y.2.2.1], 30, .norm)), (1, ([.ints .u32 8 y.2.2.2], 110, .norm))], 2⟩
def f42.inR : VS → Option (f42.Ty0)
  | ⟨[(0, .ptr 0 0)], [(0, ([.ptr 1 0, .ints .u8 64 z0_0, .int .i64 z0_1, .int .u64 z0_2], 30, .norm)), (1, ([.ints .u32 8 z1], 110, .norm))], 2⟩ => some (z0_0, z0_1, z0_2, z1)
  | _ => none
noncomputable def f42.E (K : Nat) : Entry := genE 0 f42.inA (f42.F K) (dv1 f42.o0)
theorem f42.ok (K : Nat) : EntryOK Try.prog 42 (f42.E K) := gen_ok mix tys_ok (tab_ok ( tab_nil)) Try.func42 (c := bodyOf Try.f42) (by kernel_rfl) (by kernel_rfl) (loops_none (lp := lpNone) (by kernel_rfl)) (av := f42.av) (bl := f42.bl) (inR := f42.inR) (out := f42.o0) (fuel := 400)
  (by intro s x h; unfold f42.inA at h; split at h <;> simp at h; rfl) (fun _ => Nat.le_of_ble_eq_true rfl)
  (by intro s y h; unfold f42.inR at h; split at h <;> simp at h <;> subst h <;> rfl) (fun _ _ _ => rfl) (fun _ => by kernel_rfl)
end Go.Proofs

namespace Go.Proofs
open Go.VM
abbrev f80.Ty0 := Nat × Nat × Int × Nat × List Int
abbrev f80.Ty1 := Nat × Nat × Nat × List Int
abbrev f80.Ty2 := Nat × Nat × List Int
def f80.T (_K : Nat) (a0_0 : Nat) (a0_1 : Nat) (a1 : Int) (m0_0 : Nat) (m0_1 : List Int) : Option ((f80.Ty2) ⊕ (f80.Ty1)) :=
  bif (decide (a1 < 0)) then
    none
  else
    let v5 := IntKind.wrap .i64 (a1 - (IntKind.wrap .i64 (((a0_1 : Nat) : Int) - ((a0_0 : Nat) : Int))))
    bif (decide (v5 > 0)) then
      let v7 := ((a0_1 : Nat) : Int)
      bif (decide (0 ≤ v7 ∧ v7 ≤ ((a0_1 : Nat) : Int)) && true) then
        let v8 := Int.toNat v7
        bif ((((decide (0 ≤ v5) && (fitB ((Int.toNat v5) * 1))) && (Nat.ble v8 m0_0)) && (Nat.ble a0_1 m0_0)) && (fitB ((v8 + (Int.toNat v5)) * 1))) then
          let v9 := v8 + (Int.toNat v5)
          let v10 := v8 + (Int.toNat v5)
          let v12 := ((a0_0 : Nat) : Int)
          bif (decide (0 ≤ v12 ∧ v12 ≤ ((v9 : Nat) : Int)) && (Nat.ble (0 + v9) v10)) then
            some (.inl ((Int.toNat v12), v10, ((padT m0_1 v8) ++ (padT [] (Int.toNat v5)))))
          else
            none
        else
          none
      else
        none
    else
      some (.inr (a0_0, a0_1, m0_0, m0_1))
def f80.F (K : Nat) (x : f80.Ty0) : Option ((f80.Ty2) ⊕ (f80.Ty1)) := f80.T K x.1 x.2.1 x.2.2.1 x.2.2.2.1 x.2.2.2.2
def f80.av (x : f80.Ty0) : List VV := [.sl 0 0 x.1 x.2.1, .int .i64 x.2.2.1]
def f80.bl (x : f80.Ty0) : List (Nat × Blk) := [(0, ([.ints .u8 x.2.2.2.1 x.2.2.2.2], 5, .norm))]
def f80.inA : VS → Option (f80.Ty0)
  | ⟨[(0, .sl 0 0 a0_0 a0_1), (1, .int .i64 a1)], [(0, ([.ints .u8 m0_0 m0_1], 5, .norm))], 1⟩ => some (a0_0, a0_1, a1, m0_0, m0_1)
  | _ => none
def f80.o0 (y : f80.Ty2) : VS := ⟨[(0, .vec 1 0 y.1 2)], [(0, ([], 5, .dead)), (1, ([.ints .u8 y.2.1 y.2.2], 5, .vec 2))], 3⟩
def f80.o1 (y : f80.Ty1) : VS := ⟨[(0, .sl 0 0 y.1 y.2.1)], [(0, ([.ints .u8 y.2.2.1 y.2.2.2], 5, .norm))], 1⟩
def f80.inR : VS → Option ((f80.Ty2) ⊕ (f80.Ty1))
  | ⟨[(0, .vec 1 0 y 2)], [(0, ([], 5, .dead)), (1, ([.ints .u8 z1_0 z1_1], 5, .vec 2))], 3⟩ => some (.inl (y, z1_0, z1_1))
  | ⟨[(0, .sl 0 0 y_0 y_1)], [(0, ([.ints .u8 z0_0 z0_1], 5, .norm))], 1⟩ => some (.inr (y_0, y_1, z0_0, z0_1))
  | _ => none
noncomputable def f80.E (K : Nat) : Entry := genE 1 f80.inA (f80.F K) (dvA (dv1 f80.o0) (dv1 f80.o1))
theorem f80.ok (K : Nat) : EntryOK Try.prog 80 (f80.E K) := gen_ok mix tys_ok (tab_ok ( tab_nil)) Try.func80 (c := bodyOf Try.f80) (by kernel_rfl) (by kernel_rfl) (loops_none (lp := lpNone) (by kernel_rfl)) (av := f80.av) (bl := f80.bl) (inR := f80.inR) (out := (alt f80.o0 f80.o1)) (fuel := 400)
  (by intro s x h; unfold f80.inA at h; split at h <;> simp at h; subst h; rfl) (fun _ => Nat.le_of_ble_eq_true rfl)
  (by intro s y h; unfold f80.inR at h; split at h <;> simp at h <;> subst h <;> rfl) (dvA_ok (fun _ _ _ => rfl) (fun _ _ _ => rfl)) (fun _ => by kernel_rfl)
end Go.Proofs

namespace Go.Proofs
open Go.VM
abbrev f81.Ty0 := Nat × Nat × List Int
def f81.T (_K : Nat) (a0 : Nat) (m0_0 : Nat) (m0_1 : List Int) : Option (f81.Ty0) :=
  let v1 := ((a0 : Nat) : Int)
  let v2 := ((a0 : Nat) : Int)
  bif (((decide (0 ≤ v2 ∧ v2 ≤ ((a0 : Nat) : Int)) && (decide (0 ≤ v1 ∧ v1 ≤ ((Int.toNat v2 : Nat) : Int)))) && true) && (Nat.ble (0 + a0) m0_0)) then
    some ((Int.toNat v1), m0_0, m0_1)
  else
    none
def f81.F (K : Nat) (x : f81.Ty0) : Option (f81.Ty0) := f81.T K x.1 x.2.1 x.2.2
def f81.av (x : f81.Ty0) : List VV := [.vec 0 0 x.1 1]
def f81.bl (x : f81.Ty0) : List (Nat × Blk) := [(0, ([.ints .u8 x.2.1 x.2.2], 5, .vec 1))]
def f81.inA : VS → Option (f81.Ty0)
  | ⟨[(0, .vec 0 0 a0 1)], [(0, ([.ints .u8 m0_0 m0_1], 5, .vec 1))], 2⟩ => some (a0, m0_0, m0_1)
  | _ => none
def f81.o0 (y : f81.Ty0) : VS := ⟨[(0, .vw false 0 0 y.1 2)], [(0, ([.ints .u8 y.2.1 y.2.2], 5, .vec 1))], 3⟩
def f81.inR : VS → Option (f81.Ty0)
  | ⟨[(0, .vw false 0 0 y 2)], [(0, ([.ints .u8 z0_0 z0_1], 5, .vec 1))], 3⟩ => some (y, z0_0, z0_1)
  | _ => none
noncomputable def f81.E (K : Nat) : Entry := genE 2 f81.inA (f81.F K) (dv1 f81.o0)
theorem f81.ok (K : Nat) : EntryOK Try.prog 81 (f81.E K) := gen_ok mix tys_ok (tab_ok ( tab_nil)) Try.func81 (c := bodyOf Try.f81) (by kernel_rfl) (by kernel_rfl) (loops_none (lp := lpNone) (by kernel_rfl)) (av := f81.av) (bl := f81.bl) (inR := f81.inR) (out := f81.o0) (fuel := 400)
  (by intro s x h; unfold f81.inA at h; split at h <;> simp at h; subst h; rfl) (fun _ => Nat.le_of_ble_eq_true rfl)
  (by intro s y h; unfold f81.inR at h; split at h <;> simp at h <;> subst h <;> rfl) (fun _ _ _ => rfl) (fun _ => by kernel_rfl)
end Go.Proofs

namespace Go.Proofs
open Go.VM
abbrev f69.Ty0 := Nat × Nat × List Int × Nat × List Int × Nat × List Int
abbrev f69.Ty1 := Nat × Nat × Nat × List Int × Nat × List Int
def f69.T (K : Nat) (a0 : Nat) (a1 : Nat) (m0_0 : Nat) (m0_1 : List Int) (m2_0 : Nat) (m2_1 : List Int) : Option (f69.Ty0) :=
  bif ((Nat.ble (0 + a0) m0_0 && true) && true) then
    (f63.F K (a0, 4, 1, a0, (subI m0_1 0 a0), 1, [(IntKind.wrap .u64 ((a1 : Nat) : Int))])).bind fun y3 =>
    (f80.F K (y3.1, y3.2.1, ((a1 : Nat) : Int), y3.2.2.2.2.2.2.1, y3.2.2.2.2.2.2.2)).bind fun y5 =>
    alt (fun y6 =>
      bif ((Nat.ble (0 + a1) m2_0 && (Nat.ble y6.1 y6.2.1)) && (fitB ((y6.1 + a1) * 1))) then
        (f81.F K ((y6.1 + a1), (y6.1 + a1), ((padT y6.2.2 y6.1) ++ (padT (subI m2_1 0 a1) a1)))).bind fun y9 =>
        some (y9.1, m0_0, m0_1, m2_0, m2_1, y9.2.1, y9.2.2)
      else
        none) (fun y7 =>
      bif (((Nat.ble (0 + a1) m2_0 && (Nat.ble y7.1 y7.2.2.1)) && (Nat.ble y7.2.1 y7.2.2.1)) && (fitB ((y7.1 + a1) * 1))) then
        (f81.F K ((y7.1 + a1), (y7.1 + a1), ((padT y7.2.2.2 y7.1) ++ (padT (subI m2_1 0 a1) a1)))).bind fun y11 =>
        some (y11.1, m0_0, m0_1, m2_0, m2_1, y11.2.1, y11.2.2)
      else
        none) y5
  else
    none
def f69.F (K : Nat) (x : f69.Ty1) : Option (f69.Ty0) := f69.T K x.1 x.2.1 x.2.2.1 x.2.2.2.1 x.2.2.2.2.1 x.2.2.2.2.2
def f69.av (x : f69.Ty1) : List VV := [.vw true 0 0 x.1 1, .vw true 2 0 x.2.1 3]
def f69.bl (x : f69.Ty1) : List (Nat × Blk) := [(0, ([.ints .u8 x.2.2.1 x.2.2.2.1], 0, .ro)), (2, ([.ints .u8 x.2.2.2.2.1 x.2.2.2.2.2], 0, .ro))]
def f69.inA : VS → Option (f69.Ty1)
  | ⟨[(0, .vw true 0 0 a0 1), (1, .vw true 2 0 a1 3)], [(0, ([.ints .u8 m0_0 m0_1], 0, .ro)), (2, ([.ints .u8 m2_0 m2_1], 0, .ro))], 4⟩ => some (a0, a1, m0_0, m0_1, m2_0, m2_1)
  | _ => none
def f69.o0 (y : f69.Ty0) : VS := ⟨[(0, .vw false 4 0 y.1 5)], [(0, ([.ints .u8 y.2.1 y.2.2.1], 0, .ro)), (2, ([.ints .u8 y.2.2.2.1 y.2.2.2.2.1], 0, .ro)), (4, ([.ints .u8 y.2.2.2.2.2.1 y.2.2.2.2.2.2], 5, .vec 6))], 7⟩
def f69.inR : VS → Option (f69.Ty0)
  | ⟨[(0, .vw false 4 0 y 5)], [(0, ([.ints .u8 z0_0 z0_1], 0, .ro)), (2, ([.ints .u8 z2_0 z2_1], 0, .ro)), (4, ([.ints .u8 z4_0 z4_1], 5, .vec 6))], 7⟩ => some (y, z0_0, z0_1, z2_0, z2_1, z4_0, z4_1)
  | _ => none
noncomputable def f69.E (K : Nat) : Entry := genE 4 f69.inA (f69.F K) (dv1 f69.o0)
theorem f69.ok (K : Nat) : EntryOK Try.prog 69 (f69.E K) := gen_ok mix tys_ok (sp := tabSp [(63, (viewE [(0, .u8), (2, .u64)] (f63.E K))), (80, (f80.E K)), (81, (f81.E K))]) (tab_ok ((tab_cons (view_ok (f63.ok K)) (tab_cons (f80.ok K) (tab_cons (f81.ok K) tab_nil))))) Try.func69 (c := bodyOf Try.f69) (by kernel_rfl) (by kernel_rfl) (loops_none (lp := lpNone) (by kernel_rfl)) (av := f69.av) (bl := f69.bl) (inR := f69.inR) (out := f69.o0) (fuel := 400)
  (by intro s x h; unfold f69.inA at h; split at h <;> simp at h; subst h; rfl) (fun _ => Nat.le_of_ble_eq_true rfl)
  (by intro s y h; unfold f69.inR at h; split at h <;> simp at h <;> subst h <;> rfl) (fun _ _ _ => rfl) (fun _ => by kernel_rfl)
end Go.Proofs

namespace Go.Proofs
open Go.VM
abbrev f16v2.Ty0 := List Int × List Int × Int × Int
abbrev f16v2.Ty1 := List Int × Int × Int × List Int
def f16v2.T (K : Nat) (m0_0 : List Int) (m0_1 : Int) (m0_2 : Int) (m1 : List Int) : Option (f16v2.Ty0) :=
  let v2 := Int.tmod (IntKind.wrap .i64 (119 - m0_1)) 64
  bif lenOK v2 v2 1 then
    let v3 := Int.toNat v2
    (f41.F K (0, (IntKind.wrap .u64 (8 * m0_2)), 8, 0, [])).bind fun y7 =>
    bif ((Nat.ble (0 + v3) (Int.toNat v2) && (Nat.ble v3 (Int.toNat v2))) && ((Nat.ble (0 + y7.1) y7.2.2.2.2.1 && (Nat.ble y7.1 y7.2.1)) && true)) then
      (f40v1.F K (m0_0, m0_1, m0_2, 1, v3, y7.1, m1, 1, [128], v3, (subI [] 0 v3), y7.1, (subI y7.2.2.2.2.2 0 y7.1))).bind fun y8 =>
      (f41.F K (0, (IntKind.wrap .u64 (List.getD y8.2.2.2.2.2.2.2.2.2.2.2.2 0 0)), 4, 0, [])).bind fun y11 =>
      bif ((Nat.ble (0 + y11.1) y11.2.2.2.2.1 && (Nat.ble y11.1 y11.2.1)) && true) then
        (f41.F K (y11.1, (IntKind.wrap .u64 (List.getD y8.2.2.2.2.2.2.2.2.2.2.2.2 1 0)), 4, y11.1, (subI y11.2.2.2.2.2 0 y11.1))).bind fun y14 =>
        bif ((Nat.ble (0 + y14.1) y14.2.2.2.2.1 && (Nat.ble y14.1 y14.2.1)) && true) then
          (f41.F K (y14.1, (IntKind.wrap .u64 (List.getD y8.2.2.2.2.2.2.2.2.2.2.2.2 2 0)), 4, y14.1, (subI y14.2.2.2.2.2 0 y14.1))).bind fun y17 =>
          bif ((Nat.ble (0 + y17.1) y17.2.2.2.2.1 && (Nat.ble y17.1 y17.2.1)) && true) then
            (f41.F K (y17.1, (IntKind.wrap .u64 (List.getD y8.2.2.2.2.2.2.2.2.2.2.2.2 3 0)), 4, y17.1, (subI y17.2.2.2.2.2 0 y17.1))).bind fun y20 =>
            bif ((Nat.ble (0 + y20.1) y20.2.2.2.2.1 && (Nat.ble y20.1 y20.2.1)) && true) then
              (f41.F K (y20.1, (IntKind.wrap .u64 (List.getD y8.2.2.2.2.2.2.2.2.2.2.2.2 4 0)), 4, y20.1, (subI y20.2.2.2.2.2 0 y20.1))).bind fun y23 =>
              bif ((Nat.ble (0 + y23.1) y23.2.2.2.2.1 && (Nat.ble y23.1 y23.2.1)) && true) then
                (f41.F K (y23.1, (IntKind.wrap .u64 (List.getD y8.2.2.2.2.2.2.2.2.2.2.2.2 5 0)), 4, y23.1, (subI y23.2.2.2.2.2 0 y23.1))).bind fun y26 =>
                bif ((Nat.ble (0 + y26.1) y26.2.2.2.2.1 && (Nat.ble y26.1 y26.2.1)) && true) then
                  (f41.F K (y26.1, (IntKind.wrap .u64 (List.getD y8.2.2.2.2.2.2.2.2.2.2.2.2 6 0)), 4, y26.1, (subI y26.2.2.2.2.2 0 y26.1))).bind fun y29 =>
                  bif ((Nat.ble (0 + y29.1) y29.2.2.2.2.1 && (Nat.ble y29.1 y29.2.1)) && true) then
                    (f41.F K (y29.1, (IntKind.wrap .u64 (List.getD y8.2.2.2.2.2.2.2.2.2.2.2.2 7 0)), 4, y29.1, (subI y29.2.2.2.2.2 0 y29.1))).bind fun y32 =>
                    bif ((Nat.ble (0 + y32.1) y32.2.2.2.2.1 && true) && (Nat.beq y32.1 y32.1)) then
                      some ((spl [0, 0, 0, 0, 0, 0, 0, 0, 0, 0, 0, 0, 0, 0, 0, 0, 0, 0, 0, 0, 0, 0, 0, 0, 0, 0, 0, 0, 0, 0, 0, 0] 0 (Nat.min y32.1 32) (subI y32.2.2.2.2.2 0 y32.1)), m0_0, m0_1, m0_2)
                    else
                      none
                  else
                    none
                else
                  none
              else
                none
            else
              none
          else
            none
        else
          none
      else
        none
    else
      none
  else
    none
def f16v2.F (K : Nat) (x : f16v2.Ty1) : Option (f16v2.Ty0) := f16v2.T K x.1 x.2.1 x.2.2.1 x.2.2.2
def f16v2.av (_x : f16v2.Ty1) : List VV := [.ptr 0 0]
def f16v2.bl (x : f16v2.Ty1) : List (Nat × Blk) := [(0, ([.ptr 1 0, .ints .u8 64 x.1, .int .i64 x.2.1, .int .u64 x.2.2.1], 30, .norm)), (1, ([.ints .u32 8 x.2.2.2], 110, .norm))]
def f16v2.inA : VS → Option (f16v2.Ty1)
  | ⟨[(0, .ptr 0 0)], [(0, ([.ptr 1 0, .ints .u8 64 m0_0, .int .i64 m0_1, .int .u64 m0_2], 30, .norm)), (1, ([.ints .u32 8 m1], 110, .norm))], 2⟩ => some (m0_0, m0_1, m0_2, m1)
  | _ => none
def f16v2.o0 (y : f16v2.Ty0) : VS := ⟨[(0, .agg [.ints .u8 32 y.1])], [(0, ([.ptr 1 0, .ints .u8 64 y.2.1, .int .i64 y.2.2.1, .int .u64 y.2.2.2], 30, .norm)), (1, ([], 110, .dead))], 2⟩
def f16v2.inR : VS → Option (f16v2.Ty0)
  | ⟨[(0, .agg [.ints .u8 32 y])], [(0, ([.ptr 1 0, .ints .u8 64 z0_0, .int .i64 z0_1, .int .u64 z0_2], 30, .norm)), (1, ([], 110, .dead))], 2⟩ => some (y, z0_0, z0_1, z0_2)
  | _ => none
noncomputable def f16v2.E (K : Nat) : Entry := genE 2 f16v2.inA (f16v2.F K) (dv1 f16v2.o0)
theorem f16v2.ok (K : Nat) : EntryOK Try.prog 16 (f16v2.E K) := gen_ok mix tys_ok (sp := tabSp [(41, (viewE [(0, .u8)] (f41.E K))), (40, (rowsE 1 .u8 (f40v1.E K)))]) (tab_ok ((tab_cons (view_ok (f41.ok K)) (tab_cons (rows_ok (f40v1.ok K)) tab_nil)))) Try.func16 (c := bodyOf Try.f16) (by kernel_rfl) (by kernel_rfl) (loops_none (lp := lpNone) (by kernel_rfl)) (av := f16v2.av) (bl := f16v2.bl) (inR := f16v2.inR) (out := f16v2.o0) (fuel := 400)
  (by intro s x h; unfold f16v2.inA at h; split at h <;> simp at h; subst h; rfl) (fun _ => Nat.le_of_ble_eq_true rfl)
  (by intro s y h; unfold f16v2.inR at h; split at h <;> simp at h <;> subst h <;> rfl) (fun _ _ _ => rfl) (fun _ => by kernel_rfl)
end Go.Proofs

namespace Go.Proofs
open Go.VM
end Go.Proofs

namespace Go.Proofs
open Go.VM
def Sh.frame (p : List Int) : List Int := be 4 p.length ++ p
def Sh.padded (m : List Int) : List Int := m ++ [128] ++ List.replicate ((119 - m.length % 64) % 64) 0 ++ be 8 (8 * m.length)
def Sh.digest (s : List Int) : List Int := (List.range 8).flatMap fun i => be 4 (IntKind.wrap .u64 (s.getD i 0)).toNat
def Sh.sum (m : List Int) : List Int := Sh.digest (Sh.chain (Sh.padded m) ((Sh.padded m).length / 64))
theorem sub_zero (l : List Int) (n : Nat) (h : l = []) : subI l 0 n = List.replicate n 0 := by
  subst h
  refine List.ext_getElem? fun i => ?_
  by_cases hi : i < n
  · simp [subI, hi]
  · rw [List.getElem?_eq_none (by simpa [subI] using hi), List.getElem?_eq_none (by simpa using hi)]
end Go.Proofs

namespace Go.Proofs
open Go.VM
end Go.Proofs

namespace Go.Proofs
open Go.VM
end Go.Proofs

namespace Go.Proofs
open Go.VM
abbrev f88.Ty0 := List Int × List Int × List Int
def f88.T (K : Nat) (a0 : List Int) (a1 : List Int) (a2 : List Int) : Option (List Int) :=
  (f57.F K (a0, a1)).bind fun y1 =>
  bif (decide (y1.2 > 0)) then
    (f55.F K (y1.1, a2)).bind fun y3 =>
    some y3.1
  else
    (f38.F K (y1.1, a2)).bind fun y4 =>
    bif (decide (y4 ≥ 0)) then
      (f55.F K (y1.1, a2)).bind fun y6 =>
      some y6.1
    else
      some y1.1
def f88.F (K : Nat) (x : f88.Ty0) : Option (List Int) := f88.T K x.1 x.2.1 x.2.2
def f88.av (x : f88.Ty0) : List VV := [.agg [.ints .u64 4 x.1], .agg [.ints .u64 4 x.2.1], .agg [.ints .u64 4 x.2.2]]
def f88.bl (_x : f88.Ty0) : List (Nat × Blk) := []
def f88.inA : VS → Option (f88.Ty0)
  | ⟨[(0, .agg [.ints .u64 4 a0]), (1, .agg [.ints .u64 4 a1]), (2, .agg [.ints .u64 4 a2])], [], 0⟩ => some (a0, a1, a2)
  | _ => none
def f88.o0 (y : List Int) : VS := ⟨[(0, .agg [.ints .u64 4 y])], [], 0⟩
def f88.inR : VS → Option (List Int)
  | ⟨[(0, .agg [.ints .u64 4 y])], [], 0⟩ => some y
  | _ => none
noncomputable def f88.E (K : Nat) : Entry := genE 0 f88.inA (f88.F K) (dv1 f88.o0)
theorem f88.ok (K : Nat) : EntryOK Try.prog 88 (f88.E K) := gen_ok mix tys_ok (tab_ok ((tab_cons (f57.ok K) (tab_cons (f55.ok K) (tab_cons (f38.ok K) tab_nil))))) Try.func88 (c := bodyOf Try.f88) (by kernel_rfl) (by kernel_rfl) (loops_none (lp := lpNone) (by kernel_rfl)) (av := f88.av) (bl := f88.bl) (inR := f88.inR) (out := f88.o0) (fuel := 400)
  (by intro s x h; unfold f88.inA at h; split at h <;> simp at h; subst h; rfl) (fun _ => Nat.le_of_ble_eq_true rfl)
  (by intro s y h; unfold f88.inR at h; split at h <;> simp at h <;> subst h <;> rfl) (fun _ _ _ => rfl) (fun _ => by kernel_rfl)
end Go.Proofs

namespace Go.Proofs
open Go.VM
def f84.T (_K : Nat)  : Option (List Int) :=
  some ([0, 0, 0, 0])
def f84.F (K : Nat) (_x : Unit) : Option (List Int) := f84.T K
def f84.av (_x : Unit) : List VV := []
def f84.bl (_x : Unit) : List (Nat × Blk) := []
def f84.inA : VS → Option (Unit)
  | ⟨[], [], 0⟩ => some ()
  | _ => none
def f84.o0 (y : List Int) : VS := ⟨[(0, .agg [.ints .u64 4 y])], [], 0⟩
def f84.inR : VS → Option (List Int)
  | ⟨[(0, .agg [.ints .u64 4 y])], [], 0⟩ => some y
  | _ => none
noncomputable def f84.E (K : Nat) : Entry := genE 0 f84.inA (f84.F K) (dv1 f84.o0)
theorem f84.ok (K : Nat) : EntryOK Try.prog 84 (f84.E K) := gen_ok mix tys_ok (tab_ok ( tab_nil)) Try.func84 (c := bodyOf Try.f84) (by kernel_rfl) (by kernel_rfl) (loops_none (lp := lpNone) (by kernel_rfl)) (av := f84.av) (bl := f84.bl) (inR := f84.inR) (out := f84.o0) (fuel := 400)
  (by intro s x h; unfold f84.inA at h; split at h <;> simp at h; rfl) (fun _ => Nat.le_of_ble_eq_true rfl)
  (by intro s y h; unfold f84.inR at h; split at h <;> simp at h <;> subst h <;> rfl) (fun _ _ _ => rfl) (fun _ => by kernel_rfl)
end Go.Proofs

namespace Go.Proofs
open Go.VM
abbrev f87.Ty0 := Int × List Int × List Int × List Int
abbrev f87.Ty1 := List Int × List Int × Int
abbrev f87.Ty2 := List Int × List Int
noncomputable def f87.c : Code := bodyOf Try.f87
def f87.s0t (K : Nat) (rec : f87.Ty0 → Option (f87.Ty2)) (t7 : Int) (b0 : List Int) (b1 : List Int) (b2 : List Int) : Option (f87.Ty2) :=
  bif (decide (t7 ≥ 0)) then
    (f38.F K (b1, b2)).bind fun y19 =>
    bif (decide (y19 ≥ 0)) then
      (f55.F K (b1, b2)).bind fun y21 =>
      let v22 := IntKind.wrap .i64 (Int.tdiv t7 64)
      bif decide (0 ≤ v22 ∧ v22 < 4) then
        let v25 := Int.tmod t7 64
        bif decide (0 ≤ v25) then
          bif decide (0 ≤ v22 ∧ v22 < 4) then
            (f94.F K (b2, (-1))).bind fun y31 =>
            rec ((IntKind.wrap .i64 (t7 - 1)), (setD b0 (Int.toNat v22) (bits .or .u64 (List.getD b0 (Int.toNat v22) 0) (shiftI .shl .u64 1 v25))), y21.1, y31)
          else
            none
        else
          none
      else
        none
    else
      (f94.F K (b2, (-1))).bind fun y33 =>
      rec ((IntKind.wrap .i64 (t7 - 1)), b0, b1, y33)
  else
    some (b0, b1)
def f87.s0 (K : Nat) (rec : f87.Ty0 → Option (f87.Ty2)) (x : f87.Ty0) : Option (f87.Ty2) := f87.s0t K rec x.1 x.2.1 x.2.2.1 x.2.2.2
noncomputable def f87.s0.b : Code := (findLoop 0 f87.c).getD .skip
def f87.s0.h : Hint := { lv := [4, 5, 7, 8] }
def f87.s0.ho : Hint := { lv := [4, 5] }
def f87.s0.shp (x : f87.Ty0) : VS := ⟨[(4, .ptr 0 0), (5, .ptr 1 0), (7, .int .i64 x.1), (8, .ptr 2 0)], [(0, ([.ints .u64 4 x.2.1], 67, .norm)), (1, ([.ints .u64 4 x.2.2.1], 67, .norm)), (2, ([.ints .u64 4 x.2.2.2], 67, .norm))], 3⟩
def f87.s0.inX : VS → Option (f87.Ty0)
  | ⟨[(4, .ptr 0 0), (5, .ptr 1 0), (7, .int .i64 t7), (8, .ptr 2 0)], [(0, ([.ints .u64 4 b0], 67, .norm)), (1, ([.ints .u64 4 b1], 67, .norm)), (2, ([.ints .u64 4 b2], 67, .norm))], 3⟩ => some (t7, b0, b1, b2)
  | _ => none
def f87.s0.o0 (y : f87.Ty2) : VS := ⟨[(4, .ptr 0 0), (5, .ptr 1 0)], [(0, ([.ints .u64 4 y.1], 67, .norm)), (1, ([.ints .u64 4 y.2], 67, .norm))], 2⟩
def f87.s0.des : ∀ α : Type, (f87.Ty2) → (Ex → VS → Option α) → Option α := (des1 (.exit 0) f87.s0.o0)
def f87.s0.out : f87.Ty2 → Ex × VS := (fun y => (.exit 0, f87.s0.o0 y))
theorem f87.s0.desOK : ∀ α y (k : Ex → VS → Option α), f87.s0.des α y k = k (f87.s0.out y).1 (f87.s0.out y).2 := (fun _ _ _ => rfl)
def f87.s0.inY : Ex → VS → Option (f87.Ty2)
  | .exit 0, ⟨[(4, .ptr 0 0), (5, .ptr 1 0)], [(0, ([.ints .u64 4 b0], 67, .norm)), (1, ([.ints .u64 4 b1], 67, .norm))], 2⟩ => some (b0, b1)
  | _, _ => none
def f87.lp (K : Nat) : Nat → Option (Hint × Summ) := tabLp [(0, f87.s0.h, summOf (iter (f87.s0 K) K) f87.s0.inX f87.s0.des)]
noncomputable def f87.tab (K : Nat) : List (Nat × Entry) := [(84, (f84.E K)), (85, (f85.E K)), (39, (f39.E K)), (94, (f94.E K)), (38, (f38.E K)), (55, (f55.E K))]
theorem f87.tabOK (K : Nat) : SpecOK Try.prog (tabSp (f87.tab K)) := tab_ok ((tab_cons (f84.ok K) (tab_cons (f85.ok K) (tab_cons (f39.ok K) (tab_cons (f94.ok K) (tab_cons (f38.ok K) (tab_cons (f55.ok K) tab_nil)))))))
theorem f87.s0.eq (K : Nat) (rec : f87.Ty0 → Option (f87.Ty2)) (x : f87.Ty0) : f87.s0 K rec x = roundL (getA tys) (tabSp (f87.tab K)) 70 0 (f87.lp K) 400 f87.s0.b f87.s0.h f87.s0.ho f87.s0.shp f87.s0.inX f87.s0.inY rec x := by kernel_rfl
theorem f87.s0.lok (K : Nat) : LoopsOK Try.prog 70 0 (f87.lp K) f87.s0.b := loops_ok (by
  have h : loopsIn (f87.lp K) f87.s0.b = [] := by kernel_rfl
  rw [h]; simp)
theorem f87.s0.ok (K : Nat) : SummOK Try.prog 70 0 (summOf (iter (f87.s0 K) K) f87.s0.inX f87.s0.des) f87.s0.b :=
  loop_ok mix tys_ok (f87.tabOK K) (h := f87.s0.h) (ho := f87.s0.ho) (shp := f87.s0.shp) (inX := f87.s0.inX) (des := f87.s0.des) (out := f87.s0.out) (inY := f87.s0.inY) (fuel := 400)
    (by intro st x h; unfold f87.s0.inX at h; split at h <;> simp at h; subst h; rfl)
    (by intro e st y h; unfold f87.s0.inY at h; split at h <;> simp at h <;> subst h <;> rfl)
    f87.s0.desOK (f87.s0.lok K) (f87.s0 K) (f87.s0.eq K) K
theorem f87.loops (K : Nat) : LoopsOK Try.prog 70 0 (f87.lp K) f87.c := loops_ok (by
  have h : loopsIn (f87.lp K) f87.c = [(0, f87.s0.b)] := by kernel_rfl
  rw [h]
  intro p hp
  simp only [List.mem_cons, List.not_mem_nil, or_false] at hp
  rcases hp with rfl
  · exact ⟨_, rfl, (f87.s0.ok K)⟩)
def f87.T (K : Nat) (a0 : List Int) (a1 : List Int) : Option (f87.Ty1) :=
  (f84.F K ()).bind fun y1 =>
  bif (eqL 4 a1 y1 && true) then
    some ([0, 0, 0, 0], [0, 0, 0, 0], 1)
  else
    (f85.F K a0).bind fun y3 =>
    (f85.F K a1).bind fun y4 =>
    let v5 := IntKind.wrap .i64 (y3 - y4)
    (f85.F K a0).bind fun y6 =>
    bif (decide (y6 ≤ 64)) then
      bif (decide (v5 ≥ 0)) then
        let v10 := List.getD a1 0 0
        bif decide (v10 ≠ 0) then
          (f39.F K (IntKind.wrap .u64 (Int.tdiv (List.getD a0 0 0) v10))).bind fun y12 =>
          let v14 := List.getD a1 0 0
          bif decide (v14 ≠ 0) then
            (f39.F K (Int.tmod (List.getD a0 0 0) v14)).bind fun y16 =>
            some (y12, y16, 0)
          else
            none
        else
          none
      else
        (f94.F K (a1, v5)).bind fun y17 =>
        (iter (f87.s0 K) K (v5, [0, 0, 0, 0], a0, y17)).bind fun y34 =>
        some (y34.1, y34.2, 0)
    else
      (f94.F K (a1, v5)).bind fun y35 =>
      (iter (f87.s0 K) K (v5, [0, 0, 0, 0], a0, y35)).bind fun y36 =>
      some (y36.1, y36.2, 0)
def f87.F (K : Nat) (x : f87.Ty2) : Option (f87.Ty1) := f87.T K x.1 x.2
def f87.av (x : f87.Ty2) : List VV := [.agg [.ints .u64 4 x.1], .agg [.ints .u64 4 x.2]]
def f87.bl (_x : f87.Ty2) : List (Nat × Blk) := []
def f87.inA : VS → Option (f87.Ty2)
  | ⟨[(0, .agg [.ints .u64 4 a0]), (1, .agg [.ints .u64 4 a1])], [], 0⟩ => some (a0, a1)
  | _ => none
def f87.o0 (y : f87.Ty1) : VS := ⟨[(0, .tup [.agg [.ints .u64 4 y.1], .agg [.ints .u64 4 y.2.1], .int .i64 y.2.2])], [], 0⟩
def f87.des : ∀ α : Type, (f87.Ty1) → (VS → Option α) → Option α := (dv1 f87.o0)
def f87.out : f87.Ty1 → VS := f87.o0
def f87.inR : VS → Option (f87.Ty1)
  | ⟨[(0, .tup [.agg [.ints .u64 4 y_0], .agg [.ints .u64 4 y_1], .int .i64 y_2])], [], 0⟩ => some (y_0, y_1, y_2)
  | _ => none
noncomputable def f87.E (K : Nat) : Entry := genE 0 f87.inA (f87.F K) f87.des
theorem f87.eq (K : Nat) (x : f87.Ty2) : f87.F K x = xrun (getA tys) (tabSp (f87.tab K)) Try.f87.ntmps 0 (f87.lp K) 400 f87.c ⟨initL 0 (f87.av x), f87.bl x, 0⟩ (contF (getA tys) 0 Try.f87.results.toList f87.inR) := by kernel_rfl
theorem f87.ok (K : Nat) : EntryOK Try.prog 87 (f87.E K) :=
  gen_ok mix tys_ok (f87.tabOK K) Try.func87 (by kernel_rfl : Try.f87.body = some f87.c) (by kernel_rfl) (f87.loops K) (av := f87.av) (bl := f87.bl) (out := f87.out) (fuel := 400)
    (by intro s x h; unfold f87.inA at h; split at h <;> simp at h; subst h; rfl) (fun _ => Nat.le_of_ble_eq_true rfl)
    (by intro s y h; unfold f87.inR at h; split at h <;> simp at h <;> subst h <;> rfl) (fun _ _ _ => rfl) (f87.eq K)
end Go.Proofs

namespace Go.Proofs
open Go.VM
end Go.Proofs

namespace Go.Proofs
open Go.VM
end Go.Proofs

namespace Go.Proofs
open Go.VM
def f68.k0 : ByteArray := ByteArray.mk #[0, 1, 2, 2, 3, 3, 3, 3, 4, 4, 4, 4, 4, 4, 4, 4, 5, 5, 5, 5, 5, 5, 5, 5, 5, 5, 5, 5, 5, 5, 5, 5, 6, 6, 6, 6, 6, 6, 6, 6, 6, 6, 6, 6, 6, 6, 6, 6, 6, 6, 6, 6, 6, 6, 6, 6, 6, 6, 6, 6, 6, 6, 6, 6, 7, 7, 7, 7, 7, 7, 7, 7, 7, 7, 7, 7, 7, 7, 7, 7, 7, 7, 7, 7, 7, 7, 7, 7, 7, 7, 7, 7, 7, 7, 7, 7, 7, 7, 7, 7, 7, 7, 7, 7, 7, 7, 7, 7, 7, 7, 7, 7, 7, 7, 7, 7, 7, 7, 7, 7, 7, 7, 7, 7, 7, 7, 7, 7, 8, 8, 8, 8, 8, 8, 8, 8, 8, 8, 8, 8, 8, 8, 8, 8, 8, 8, 8, 8, 8, 8, 8, 8, 8, 8, 8, 8, 8, 8, 8, 8, 8, 8, 8, 8, 8, 8, 8, 8, 8, 8, 8, 8, 8, 8, 8, 8, 8, 8, 8, 8, 8, 8, 8, 8, 8, 8, 8, 8, 8, 8, 8, 8, 8, 8, 8, 8, 8, 8, 8, 8, 8, 8, 8, 8, 8, 8, 8, 8, 8, 8, 8, 8, 8, 8, 8, 8, 8, 8, 8, 8, 8, 8, 8, 8, 8, 8, 8, 8, 8, 8, 8, 8, 8, 8, 8, 8, 8, 8, 8, 8, 8, 8, 8, 8, 8, 8, 8, 8, 8, 8, 8, 8, 8, 8, 8, 8]
def f68.T (_K : Nat) (a0 : Int) : Option (Int) :=
  bif (decide (a0 ≥ 4294967296)) then
    let v2 := Int.fdiv a0 (2 ^ 32)
    bif (decide (v2 ≥ 65536)) then
      let v4 := Int.fdiv v2 (2 ^ 16)
      bif (decide (v4 ≥ 256)) then
        let v7 := IntKind.wrap .u8 (Int.fdiv v4 (2 ^ 8))
        bif decide (0 ≤ v7 ∧ v7 < ((ByteArray.size f68.k0 : Nat) : Int)) then
          some (IntKind.wrap .i64 (56 + (IntKind.wrap .i64 (strAt f68.k0 (Int.toNat v7)))))
        else
          none
      else
        let v11 := IntKind.wrap .u8 v4
        bif decide (0 ≤ v11 ∧ v11 < ((ByteArray.size f68.k0 : Nat) : Int)) then
          some (IntKind.wrap .i64 (48 + (IntKind.wrap .i64 (strAt f68.k0 (Int.toNat v11)))))
        else
          none
    else
      bif (decide (v2 ≥ 256)) then
        let v17 := IntKind.wrap .u8 (Int.fdiv v2 (2 ^ 8))
        bif decide (0 ≤ v17 ∧ v17 < ((ByteArray.size f68.k0 : Nat) : Int)) then
          some (IntKind.wrap .i64 (40 + (IntKind.wrap .i64 (strAt f68.k0 (Int.toNat v17)))))
        else
          none
      else
        let v21 := IntKind.wrap .u8 v2
        bif decide (0 ≤ v21 ∧ v21 < ((ByteArray.size f68.k0 : Nat) : Int)) then
          some (IntKind.wrap .i64 (32 + (IntKind.wrap .i64 (strAt f68.k0 (Int.toNat v21)))))
        else
          none
  else
    bif (decide (a0 ≥ 65536)) then
      let v26 := Int.fdiv a0 (2 ^ 16)
      bif (decide (v26 ≥ 256)) then
        let v29 := IntKind.wrap .u8 (Int.fdiv v26 (2 ^ 8))
        bif decide (0 ≤ v29 ∧ v29 < ((ByteArray.size f68.k0 : Nat) : Int)) then
          some (IntKind.wrap .i64 (24 + (IntKind.wrap .i64 (strAt f68.k0 (Int.toNat v29)))))
        else
          none
      else
        let v33 := IntKind.wrap .u8 v26
        bif decide (0 ≤ v33 ∧ v33 < ((ByteArray.size f68.k0 : Nat) : Int)) then
          some (IntKind.wrap .i64 (16 + (IntKind.wrap .i64 (strAt f68.k0 (Int.toNat v33)))))
        else
          none
    else
      bif (decide (a0 ≥ 256)) then
        let v39 := IntKind.wrap .u8 (Int.fdiv a0 (2 ^ 8))
        bif decide (0 ≤ v39 ∧ v39 < ((ByteArray.size f68.k0 : Nat) : Int)) then
          some (IntKind.wrap .i64 (8 + (IntKind.wrap .i64 (strAt f68.k0 (Int.toNat v39)))))
        else
          none
      else
        let v43 := IntKind.wrap .u8 a0
        bif decide (0 ≤ v43 ∧ v43 < ((ByteArray.size f68.k0 : Nat) : Int)) then
          some (IntKind.wrap .i64 (0 + (IntKind.wrap .i64 (strAt f68.k0 (Int.toNat v43)))))
        else
          none
def f68.F (K : Nat) (x : Int) : Option (Int) := f68.T K x
def f68.av (x : Int) : List VV := [.int .u64 x]
def f68.bl (_x : Int) : List (Nat × Blk) := []
def f68.inA : VS → Option (Int)
  | ⟨[(0, .int .u64 a0)], [], 0⟩ => some a0
  | _ => none
def f68.o0 (y : Int) : VS := ⟨[(0, .int .i64 y)], [], 0⟩
def f68.inR : VS → Option (Int)
  | ⟨[(0, .int .i64 y)], [], 0⟩ => some y
  | _ => none
noncomputable def f68.E (K : Nat) : Entry := genE 0 f68.inA (f68.F K) (dv1 f68.o0)
theorem f68.ok (K : Nat) : EntryOK Try.prog 68 (f68.E K) := gen_ok mix tys_ok (tab_ok ( tab_nil)) Try.func68 (c := bodyOf Try.f68) (by kernel_rfl) (by kernel_rfl) (loops_none (lp := lpNone) (by kernel_rfl)) (av := f68.av) (bl := f68.bl) (inR := f68.inR) (out := f68.o0) (fuel := 400)
  (by intro s x h; unfold f68.inA at h; split at h <;> simp at h; subst h; rfl) (fun _ => Nat.le_of_ble_eq_true rfl)
  (by intro s y h; unfold f68.inR at h; split at h <;> simp at h <;> subst h <;> rfl) (fun _ _ _ => rfl) (fun _ => by kernel_rfl)
end Go.Proofs

namespace Go.Proofs
open Go.VM
def f93.T (K : Nat) (a0 : Int) : Option (Int) :=
  (f68.F K a0).bind fun y1 =>
  some (IntKind.wrap .i64 (64 - y1))
def f93.F (K : Nat) (x : Int) : Option (Int) := f93.T K x
def f93.av (x : Int) : List VV := [.int .u64 x]
def f93.bl (_x : Int) : List (Nat × Blk) := []
def f93.inA : VS → Option (Int)
  | ⟨[(0, .int .u64 a0)], [], 0⟩ => some a0
  | _ => none
def f93.o0 (y : Int) : VS := ⟨[(0, .int .i64 y)], [], 0⟩
def f93.inR : VS → Option (Int)
  | ⟨[(0, .int .i64 y)], [], 0⟩ => some y
  | _ => none
noncomputable def f93.E (K : Nat) : Entry := genE 0 f93.inA (f93.F K) (dv1 f93.o0)
theorem f93.ok (K : Nat) : EntryOK Try.prog 93 (f93.E K) := gen_ok mix tys_ok (tab_ok ((tab_cons (f68.ok K) tab_nil))) Try.func93 (c := bodyOf Try.f93) (by kernel_rfl) (by kernel_rfl) (loops_none (lp := lpNone) (by kernel_rfl)) (av := f93.av) (bl := f93.bl) (inR := f93.inR) (out := f93.o0) (fuel := 400)
  (by intro s x h; unfold f93.inA at h; split at h <;> simp at h; subst h; rfl) (fun _ => Nat.le_of_ble_eq_true rfl)
  (by intro s y h; unfold f93.inR at h; split at h <;> simp at h <;> subst h <;> rfl) (fun _ _ _ => rfl) (fun _ => by kernel_rfl)
end Go.Proofs

namespace Go.Proofs
open Go.VM
abbrev f86.Ty0 := Int × Int × Int × Int × Int × Int × Int × Int × Int
abbrev f86.Ty1 := Int × Int × Int × Int × Int × Int × Int × Int
abbrev f86.Ty2 := Int × Int × Int × Int × Int × Int
abbrev f86.Ty3 := Int × Int × Int
noncomputable def f86.c : Code := bodyOf Try.f86
def f86.s0t (_K : Nat) (rec : f86.Ty0 → Option (f86.Ty1)) (t2 : Int) (t8 : Int) (t9 : Int) (t10 : Int) (t11 : Int) (t13 : Int) (t14 : Int) (t15 : Int) (t16 : Int) : Option (f86.Ty1) :=
  bif (decide (t15 ≥ 4294967296)) then
    let v20 := IntKind.wrap .u64 (t15 - 1)
    let v21 := IntKind.wrap .u64 (t16 + t9)
    bif (decide (v21 ≥ 4294967296)) then
      some (t2, t8, t9, t10, t11, t13, t14, v20)
    else
      rec (t2, t8, t9, t10, t11, t13, t14, v20, v21)
  else
    bif (decide ((IntKind.wrap .u64 (t15 * t10)) > (IntKind.wrap .u64 ((IntKind.wrap .u64 (4294967296 * t16)) + t13)))) then
      let v27 := IntKind.wrap .u64 (t15 - 1)
      let v28 := IntKind.wrap .u64 (t16 + t9)
      bif (decide (v28 ≥ 4294967296)) then
        some (t2, t8, t9, t10, t11, t13, t14, v27)
      else
        rec (t2, t8, t9, t10, t11, t13, t14, v27, v28)
    else
      some (t2, t8, t9, t10, t11, t13, t14, t15)
def f86.s0 (K : Nat) (rec : f86.Ty0 → Option (f86.Ty1)) (x : f86.Ty0) : Option (f86.Ty1) := f86.s0t K rec x.1 x.2.1 x.2.2.1 x.2.2.2.1 x.2.2.2.2.1 x.2.2.2.2.2.1 x.2.2.2.2.2.2.1 x.2.2.2.2.2.2.2.1 x.2.2.2.2.2.2.2.2
noncomputable def f86.s0.b : Code := (findLoop 0 f86.c).getD .skip
def f86.s0.h : Hint := { lv := [2, 8, 9, 10, 11, 13, 14, 15, 16] }
def f86.s0.ho : Hint := { lv := [2, 8, 9, 10, 11, 13, 14, 15] }
def f86.s0.shp (x : f86.Ty0) : VS := ⟨[(2, .int .u64 x.1), (8, .int .u64 x.2.1), (9, .int .u64 x.2.2.1), (10, .int .u64 x.2.2.2.1), (11, .int .u64 x.2.2.2.2.1), (13, .int .u64 x.2.2.2.2.2.1), (14, .int .u64 x.2.2.2.2.2.2.1), (15, .int .u64 x.2.2.2.2.2.2.2.1), (16, .int .u64 x.2.2.2.2.2.2.2.2)], [], 0⟩
def f86.s0.inX : VS → Option (f86.Ty0)
  | ⟨[(2, .int .u64 t2), (8, .int .u64 t8), (9, .int .u64 t9), (10, .int .u64 t10), (11, .int .u64 t11), (13, .int .u64 t13), (14, .int .u64 t14), (15, .int .u64 t15), (16, .int .u64 t16)], [], 0⟩ => some (t2, t8, t9, t10, t11, t13, t14, t15, t16)
  | _ => none
def f86.s0.o0 (y : f86.Ty1) : VS := ⟨[(2, .int .u64 y.1), (8, .int .u64 y.2.1), (9, .int .u64 y.2.2.1), (10, .int .u64 y.2.2.2.1), (11, .int .u64 y.2.2.2.2.1), (13, .int .u64 y.2.2.2.2.2.1), (14, .int .u64 y.2.2.2.2.2.2.1), (15, .int .u64 y.2.2.2.2.2.2.2)], [], 0⟩
def f86.s0.des : ∀ α : Type, (f86.Ty1) → (Ex → VS → Option α) → Option α := (des1 (.exit 0) f86.s0.o0)
def f86.s0.out : f86.Ty1 → Ex × VS := (fun y => (.exit 0, f86.s0.o0 y))
theorem f86.s0.desOK : ∀ α y (k : Ex → VS → Option α), f86.s0.des α y k = k (f86.s0.out y).1 (f86.s0.out y).2 := (fun _ _ _ => rfl)
def f86.s0.inY : Ex → VS → Option (f86.Ty1)
  | .exit 0, ⟨[(2, .int .u64 t2), (8, .int .u64 t8), (9, .int .u64 t9), (10, .int .u64 t10), (11, .int .u64 t11), (13, .int .u64 t13), (14, .int .u64 t14), (15, .int .u64 t15)], [], 0⟩ => some (t2, t8, t9, t10, t11, t13, t14, t15)
  | _, _ => none
def f86.s2t (_K : Nat) (rec : f86.Ty0 → Option (f86.Ty2)) (t2 : Int) (t8 : Int) (t9 : Int) (t10 : Int) (t14 : Int) (t15 : Int) (t16 : Int) (t17 : Int) (t18 : Int) : Option (f86.Ty2) :=
  bif (decide (t18 ≥ 4294967296)) then
    let v42 := IntKind.wrap .u64 (t18 - 1)
    let v43 := IntKind.wrap .u64 (t16 + t9)
    bif (decide (v43 ≥ 4294967296)) then
      some (t2, t8, t14, t15, t17, v42)
    else
      rec (t2, t8, t9, t10, t14, t15, v43, t17, v42)
  else
    bif (decide ((IntKind.wrap .u64 (t18 * t10)) > (IntKind.wrap .u64 ((IntKind.wrap .u64 (4294967296 * t16)) + t14)))) then
      let v49 := IntKind.wrap .u64 (t18 - 1)
      let v50 := IntKind.wrap .u64 (t16 + t9)
      bif (decide (v50 ≥ 4294967296)) then
        some (t2, t8, t14, t15, t17, v49)
      else
        rec (t2, t8, t9, t10, t14, t15, v50, t17, v49)
    else
      some (t2, t8, t14, t15, t17, t18)
def f86.s2 (K : Nat) (rec : f86.Ty0 → Option (f86.Ty2)) (x : f86.Ty0) : Option (f86.Ty2) := f86.s2t K rec x.1 x.2.1 x.2.2.1 x.2.2.2.1 x.2.2.2.2.1 x.2.2.2.2.2.1 x.2.2.2.2.2.2.1 x.2.2.2.2.2.2.2.1 x.2.2.2.2.2.2.2.2
noncomputable def f86.s2.b : Code := (findLoop 2 f86.c).getD .skip
def f86.s2.h : Hint := { lv := [2, 8, 9, 10, 14, 15, 16, 17, 18] }
def f86.s2.ho : Hint := { lv := [2, 8, 14, 15, 17, 18] }
def f86.s2.shp (x : f86.Ty0) : VS := ⟨[(2, .int .u64 x.1), (8, .int .u64 x.2.1), (9, .int .u64 x.2.2.1), (10, .int .u64 x.2.2.2.1), (14, .int .u64 x.2.2.2.2.1), (15, .int .u64 x.2.2.2.2.2.1), (16, .int .u64 x.2.2.2.2.2.2.1), (17, .int .u64 x.2.2.2.2.2.2.2.1), (18, .int .u64 x.2.2.2.2.2.2.2.2)], [], 0⟩
def f86.s2.inX : VS → Option (f86.Ty0)
  | ⟨[(2, .int .u64 t2), (8, .int .u64 t8), (9, .int .u64 t9), (10, .int .u64 t10), (14, .int .u64 t14), (15, .int .u64 t15), (16, .int .u64 t16), (17, .int .u64 t17), (18, .int .u64 t18)], [], 0⟩ => some (t2, t8, t9, t10, t14, t15, t16, t17, t18)
  | _ => none
def f86.s2.o0 (y : f86.Ty2) : VS := ⟨[(2, .int .u64 y.1), (8, .int .u64 y.2.1), (14, .int .u64 y.2.2.1), (15, .int .u64 y.2.2.2.1), (17, .int .u64 y.2.2.2.2.1), (18, .int .u64 y.2.2.2.2.2)], [], 0⟩
def f86.s2.des : ∀ α : Type, (f86.Ty2) → (Ex → VS → Option α) → Option α := (des1 (.exit 2) f86.s2.o0)
def f86.s2.out : f86.Ty2 → Ex × VS := (fun y => (.exit 2, f86.s2.o0 y))
theorem f86.s2.desOK : ∀ α y (k : Ex → VS → Option α), f86.s2.des α y k = k (f86.s2.out y).1 (f86.s2.out y).2 := (fun _ _ _ => rfl)
def f86.s2.inY : Ex → VS → Option (f86.Ty2)
  | .exit 2, ⟨[(2, .int .u64 t2), (8, .int .u64 t8), (14, .int .u64 t14), (15, .int .u64 t15), (17, .int .u64 t17), (18, .int .u64 t18)], [], 0⟩ => some (t2, t8, t14, t15, t17, t18)
  | _, _ => none
def f86.lp (K : Nat) : Nat → Option (Hint × Summ) := tabLp [(0, f86.s0.h, summOf (iter (f86.s0 K) K) f86.s0.inX f86.s0.des), (2, f86.s2.h, summOf (iter (f86.s2 K) K) f86.s2.inX f86.s2.des)]
noncomputable def f86.tab (K : Nat) : List (Nat × Entry) := [(93, (f93.E K))]
theorem f86.tabOK (K : Nat) : SpecOK Try.prog (tabSp (f86.tab K)) := tab_ok ((tab_cons (f93.ok K) tab_nil))
theorem f86.s0.eq (K : Nat) (rec : f86.Ty0 → Option (f86.Ty1)) (x : f86.Ty0) : f86.s0 K rec x = roundL (getA tys) (tabSp (f86.tab K)) 135 0 (f86.lp K) 400 f86.s0.b f86.s0.h f86.s0.ho f86.s0.shp f86.s0.inX f86.s0.inY rec x := by kernel_rfl
theorem f86.s0.lok (K : Nat) : LoopsOK Try.prog 135 0 (f86.lp K) f86.s0.b := loops_ok (by
  have h : loopsIn (f86.lp K) f86.s0.b = [] := by kernel_rfl
  rw [h]; simp)
theorem f86.s0.ok (K : Nat) : SummOK Try.prog 135 0 (summOf (iter (f86.s0 K) K) f86.s0.inX f86.s0.des) f86.s0.b :=
  loop_ok mix tys_ok (f86.tabOK K) (h := f86.s0.h) (ho := f86.s0.ho) (shp := f86.s0.shp) (inX := f86.s0.inX) (des := f86.s0.des) (out := f86.s0.out) (inY := f86.s0.inY) (fuel := 400)
    (by intro st x h; unfold f86.s0.inX at h; split at h <;> simp at h; subst h; rfl)
    (by intro e st y h; unfold f86.s0.inY at h; split at h <;> simp at h <;> subst h <;> rfl)
    f86.s0.desOK (f86.s0.lok K) (f86.s0 K) (f86.s0.eq K) K
theorem f86.s2.eq (K : Nat) (rec : f86.Ty0 → Option (f86.Ty2)) (x : f86.Ty0) : f86.s2 K rec x = roundL (getA tys) (tabSp (f86.tab K)) 135 0 (f86.lp K) 400 f86.s2.b f86.s2.h f86.s2.ho f86.s2.shp f86.s2.inX f86.s2.inY rec x := by kernel_rfl
theorem f86.s2.lok (K : Nat) : LoopsOK Try.prog 135 0 (f86.lp K) f86.s2.b := loops_ok (by
  have h : loopsIn (f86.lp K) f86.s2.b = [] := by kernel_rfl
  rw [h]; simp)
theorem f86.s2.ok (K : Nat) : SummOK Try.prog 135 0 (summOf (iter (f86.s2 K) K) f86.s2.inX f86.s2.des) f86.s2.b :=
  loop_ok mix tys_ok (f86.tabOK K) (h := f86.s2.h) (ho := f86.s2.ho) (shp := f86.s2.shp) (inX := f86.s2.inX) (des := f86.s2.des) (out := f86.s2.out) (inY := f86.s2.inY) (fuel := 400)
    (by intro st x h; unfold f86.s2.inX at h; split at h <;> simp at h; subst h; rfl)
    (by intro e st y h; unfold f86.s2.inY at h; split at h <;> simp at h <;> subst h <;> rfl)
    f86.s2.desOK (f86.s2.lok K) (f86.s2 K) (f86.s2.eq K) K
theorem f86.loops (K : Nat) : LoopsOK Try.prog 135 0 (f86.lp K) f86.c := loops_ok (by
  have h : loopsIn (f86.lp K) f86.c = [(0, f86.s0.b), (2, f86.s2.b)] := by kernel_rfl
  rw [h]
  intro p hp
  simp only [List.mem_cons, List.not_mem_nil, or_false] at hp
  rcases hp with rfl | rfl
  · exact ⟨_, rfl, (f86.s0.ok K)⟩
  · exact ⟨_, rfl, (f86.s2.ok K)⟩)
def f86.T (K : Nat) (a0 : Int) (a1 : Int) (a2 : Int) : Option (Int × Int) :=
  bif (a2 == 0) then
    none
  else
    bif (decide (a2 ≤ a0)) then
      none
    else
      bif (a0 == 0) then
        bif decide (a2 ≠ 0) then
          bif decide (a2 ≠ 0) then
            some ((IntKind.wrap .u64 (Int.tdiv a1 a2)), (Int.tmod a1 a2))
          else
            none
        else
          none
      else
        (f93.F K a2).bind fun y4 =>
        let v5 := IntKind.wrap .u64 y4
        bif decide (0 ≤ v5) then
          let v6 := shiftI .shl .u64 a2 v5
          let v7 := Int.fdiv v6 (2 ^ 32)
          bif decide (0 ≤ v5) then
            let v10 := IntKind.wrap .u64 (64 - v5)
            bif decide (0 ≤ v10) then
              let v12 := bits .or .u64 (shiftI .shl .u64 a0 v5) (shiftI .shr .u64 a1 v10)
              bif decide (0 ≤ v5) then
                let v13 := shiftI .shl .u64 a1 v5
                bif decide (v7 ≠ 0) then
                  let v16 := IntKind.wrap .u64 (Int.tdiv v12 v7)
                  (iter (f86.s0 K) K (v6, v5, v7, (bits .and .u64 v6 4294967295), v12, (Int.fdiv v13 (2 ^ 32)), (bits .and .u64 v13 4294967295), v16, (IntKind.wrap .u64 (v12 - (IntKind.wrap .u64 (v16 * v7)))))).bind fun y30 =>
                  let v37 := IntKind.wrap .u64 ((IntKind.wrap .u64 ((IntKind.wrap .u64 (y30.2.2.2.2.1 * 4294967296)) + y30.2.2.2.2.2.1)) - (IntKind.wrap .u64 (y30.2.2.2.2.2.2.2 * y30.1)))
                  bif decide (y30.2.2.1 ≠ 0) then
                    let v38 := IntKind.wrap .u64 (Int.tdiv v37 y30.2.2.1)
                    (iter (f86.s2 K) K (y30.1, y30.2.1, y30.2.2.1, y30.2.2.2.1, y30.2.2.2.2.2.2.1, y30.2.2.2.2.2.2.2, (IntKind.wrap .u64 (v37 - (IntKind.wrap .u64 (v38 * y30.2.2.1)))), v37, v38)).bind fun y52 =>
                    bif decide (0 ≤ y52.2.1) then
                      some ((IntKind.wrap .u64 ((IntKind.wrap .u64 (y52.2.2.2.1 * 4294967296)) + y52.2.2.2.2.2)), (shiftI .shr .u64 (IntKind.wrap .u64 ((IntKind.wrap .u64 ((IntKind.wrap .u64 (y52.2.2.2.2.1 * 4294967296)) + y52.2.2.1)) - (IntKind.wrap .u64 (y52.2.2.2.2.2 * y52.1)))) y52.2.1))
                    else
                      none
                  else
                    none
                else
                  none
              else
                none
            else
              none
          else
            none
        else
          none
def f86.F (K : Nat) (x : f86.Ty3) : Option (Int × Int) := f86.T K x.1 x.2.1 x.2.2
def f86.av (x : f86.Ty3) : List VV := [.int .u64 x.1, .int .u64 x.2.1, .int .u64 x.2.2]
def f86.bl (_x : f86.Ty3) : List (Nat × Blk) := []
def f86.inA : VS → Option (f86.Ty3)
  | ⟨[(0, .int .u64 a0), (1, .int .u64 a1), (2, .int .u64 a2)], [], 0⟩ => some (a0, a1, a2)
  | _ => none
def f86.o0 (y : Int × Int) : VS := ⟨[(0, .tup [.int .u64 y.1, .int .u64 y.2])], [], 0⟩
def f86.des : ∀ α : Type, (Int × Int) → (VS → Option α) → Option α := (dv1 f86.o0)
def f86.out : Int × Int → VS := f86.o0
def f86.inR : VS → Option (Int × Int)
  | ⟨[(0, .tup [.int .u64 y_0, .int .u64 y_1])], [], 0⟩ => some (y_0, y_1)
  | _ => none
noncomputable def f86.E (K : Nat) : Entry := genE 0 f86.inA (f86.F K) f86.des
theorem f86.eq (K : Nat) (x : f86.Ty3) : f86.F K x = xrun (getA tys) (tabSp (f86.tab K)) Try.f86.ntmps 0 (f86.lp K) 400 f86.c ⟨initL 0 (f86.av x), f86.bl x, 0⟩ (contF (getA tys) 0 Try.f86.results.toList f86.inR) := by kernel_rfl
theorem f86.ok (K : Nat) : EntryOK Try.prog 86 (f86.E K) :=
  gen_ok mix tys_ok (f86.tabOK K) Try.func86 (by kernel_rfl : Try.f86.body = some f86.c) (by kernel_rfl) (f86.loops K) (av := f86.av) (bl := f86.bl) (out := f86.out) (fuel := 400)
    (by intro s x h; unfold f86.inA at h; split at h <;> simp at h; subst h; rfl) (fun _ => Nat.le_of_ble_eq_true rfl)
    (by intro s y h; unfold f86.inR at h; split at h <;> simp at h <;> subst h <;> rfl) (fun _ _ _ => rfl) (f86.eq K)
end Go.Proofs

namespace Go.Proofs
open Go.VM
end Go.Proofs

namespace Go.Proofs
open Go.VM
end Go.Proofs

namespace Go.Proofs
open Go.VM
end Go.Proofs

namespace Go.Proofs
open Go.VM
abbrev f75.Ty0 := Int × Int × Int × Int × List Int × List Int × List Int × List Int
abbrev f75.Ty1 := Int × Int × List Int × List Int × List Int × List Int
abbrev f75.Ty2 := Int × Int × Int × List Int × List Int × List Int
abbrev f75.Ty3 := List Int × List Int × List Int
abbrev f75.Ty4 := Int × List Int
abbrev f75.Ty5 := List Int × Int
noncomputable def f75.c : Code := bodyOf Try.f75
def f75.s2t (K : Nat) (rec : f75.Ty0 → Option (f75.Ty2)) (t8 : Int) (t28 : Int) (t29 : Int) (t33 : Int) (b0 : List Int) (b1 : List Int) (b2 : List Int) (b3 : List Int) : Option (f75.Ty2) :=
  bif (decide (t33 < 4)) then
    let v10 := IntKind.wrap .i64 (3 - t33)
    bif decide (0 ≤ v10 ∧ v10 < 4) then
      (f86.F K (t8, (List.getD b2 (Int.toNat v10) 0), (List.getD b0 0 0))).bind fun y14 =>
      rec (y14.2, t28, t29, (IntKind.wrap .i64 (t33 + 1)), b0, b1, b2, b3)
    else
      none
  else
    some (t8, t28, t29, b0, b1, b3)
def f75.s2 (K : Nat) (rec : f75.Ty0 → Option (f75.Ty2)) (x : f75.Ty0) : Option (f75.Ty2) := f75.s2t K rec x.1 x.2.1 x.2.2.1 x.2.2.2.1 x.2.2.2.2.1 x.2.2.2.2.2.1 x.2.2.2.2.2.2.1 x.2.2.2.2.2.2.2
noncomputable def f75.s2.b : Code := (findLoop 2 f75.c).getD .skip
def f75.s2.h : Hint := { lv := [5, 6, 8, 10, 27, 28, 29, 33] }
def f75.s2.ho : Hint := { lv := [5, 6, 8, 27, 28, 29] }
def f75.s2.shp (x : f75.Ty0) : VS := ⟨[(5, .ptr 0 0), (6, .ptr 1 0), (8, .int .u64 x.1), (10, .ptr 2 0), (27, .sl 3 0 2 2), (28, .int .i64 x.2.1), (29, .int .i64 x.2.2.1), (33, .int .i64 x.2.2.2.1)], [(0, ([.ints .u64 4 x.2.2.2.2.1], 67, .norm)), (1, ([.ints .u64 4 x.2.2.2.2.2.1], 67, .norm)), (2, ([.ints .u64 4 x.2.2.2.2.2.2.1], 67, .norm)), (3, ([.ints .u64 8 x.2.2.2.2.2.2.2], 67, .norm))], 4⟩
def f75.s2.inX : VS → Option (f75.Ty0)
  | ⟨[(5, .ptr 0 0), (6, .ptr 1 0), (8, .int .u64 t8), (10, .ptr 2 0), (27, .sl 3 0 2 2), (28, .int .i64 t28), (29, .int .i64 t29), (33, .int .i64 t33)], [(0, ([.ints .u64 4 b0], 67, .norm)), (1, ([.ints .u64 4 b1], 67, .norm)), (2, ([.ints .u64 4 b2], 67, .norm)), (3, ([.ints .u64 8 b3], 67, .norm))], 4⟩ => some (t8, t28, t29, t33, b0, b1, b2, b3)
  | _ => none
def f75.s2.o0 (y : f75.Ty2) : VS := ⟨[(5, .ptr 0 0), (6, .ptr 1 0), (8, .int .u64 y.1), (27, .sl 2 0 2 2), (28, .int .i64 y.2.1), (29, .int .i64 y.2.2.1)], [(0, ([.ints .u64 4 y.2.2.2.1], 67, .norm)), (1, ([.ints .u64 4 y.2.2.2.2.1], 67, .norm)), (2, ([.ints .u64 8 y.2.2.2.2.2], 67, .norm))], 3⟩
def f75.s2.des : ∀ α : Type, (f75.Ty2) → (Ex → VS → Option α) → Option α := (des1 (.exit 2) f75.s2.o0)
def f75.s2.out : f75.Ty2 → Ex × VS := (fun y => (.exit 2, f75.s2.o0 y))
theorem f75.s2.desOK : ∀ α y (k : Ex → VS → Option α), f75.s2.des α y k = k (f75.s2.out y).1 (f75.s2.out y).2 := (fun _ _ _ => rfl)
def f75.s2.inY : Ex → VS → Option (f75.Ty2)
  | .exit 2, ⟨[(5, .ptr 0 0), (6, .ptr 1 0), (8, .int .u64 t8), (27, .sl 2 0 2 2), (28, .int .i64 t28), (29, .int .i64 t29)], [(0, ([.ints .u64 4 b0], 67, .norm)), (1, ([.ints .u64 4 b1], 67, .norm)), (2, ([.ints .u64 8 b2], 67, .norm))], 3⟩ => some (t8, t28, t29, b0, b1, b2)
  | _, _ => none
def f75.s0t (K : Nat) (rec : f75.Ty2 → Option (f75.Ty4)) (t8 : Int) (t28 : Int) (t29 : Int) (b0 : List Int) (b1 : List Int) (b2 : List Int) : Option (f75.Ty4) :=
  bif (decide (t29 < t28)) then
    bif decide (0 ≤ t29 ∧ t29 < 2) then
      (iter (f75.s2 K) K (t8, t28, t29, 0, b0, b1, (List.take 4 (List.drop ((Int.toNat t29) * 4) b2)), b2)).bind fun y16 =>
      rec (y16.1, y16.2.1, (IntKind.wrap .i64 (y16.2.2.1 + 1)), y16.2.2.2.1, y16.2.2.2.2.1, y16.2.2.2.2.2)
    else
      none
  else
    some (t8, b1)
def f75.s0 (K : Nat) (rec : f75.Ty2 → Option (f75.Ty4)) (x : f75.Ty2) : Option (f75.Ty4) := f75.s0t K rec x.1 x.2.1 x.2.2.1 x.2.2.2.1 x.2.2.2.2.1 x.2.2.2.2.2
noncomputable def f75.s0.b : Code := (findLoop 0 f75.c).getD .skip
def f75.s0.h : Hint := { lv := [5, 6, 8, 27, 28, 29] }
def f75.s0.ho : Hint := { lv := [6, 8] }
def f75.s0.shp (x : f75.Ty2) : VS := ⟨[(5, .ptr 0 0), (6, .ptr 1 0), (8, .int .u64 x.1), (27, .sl 2 0 2 2), (28, .int .i64 x.2.1), (29, .int .i64 x.2.2.1)], [(0, ([.ints .u64 4 x.2.2.2.1], 67, .norm)), (1, ([.ints .u64 4 x.2.2.2.2.1], 67, .norm)), (2, ([.ints .u64 8 x.2.2.2.2.2], 67, .norm))], 3⟩
def f75.s0.inX : VS → Option (f75.Ty2)
  | ⟨[(5, .ptr 0 0), (6, .ptr 1 0), (8, .int .u64 t8), (27, .sl 2 0 2 2), (28, .int .i64 t28), (29, .int .i64 t29)], [(0, ([.ints .u64 4 b0], 67, .norm)), (1, ([.ints .u64 4 b1], 67, .norm)), (2, ([.ints .u64 8 b2], 67, .norm))], 3⟩ => some (t8, t28, t29, b0, b1, b2)
  | _ => none
def f75.s0.o0 (y : f75.Ty4) : VS := ⟨[(6, .ptr 0 0), (8, .int .u64 y.1)], [(0, ([.ints .u64 4 y.2], 67, .norm))], 1⟩
def f75.s0.des : ∀ α : Type, (f75.Ty4) → (Ex → VS → Option α) → Option α := (des1 (.exit 0) f75.s0.o0)
def f75.s0.out : f75.Ty4 → Ex × VS := (fun y => (.exit 0, f75.s0.o0 y))
theorem f75.s0.desOK : ∀ α y (k : Ex → VS → Option α), f75.s0.des α y k = k (f75.s0.out y).1 (f75.s0.out y).2 := (fun _ _ _ => rfl)
def f75.s0.inY : Ex → VS → Option (f75.Ty4)
  | .exit 0, ⟨[(6, .ptr 0 0), (8, .int .u64 t8)], [(0, ([.ints .u64 4 b0], 67, .norm))], 1⟩ => some (t8, b0)
  | _, _ => none
def f75.s4t (K : Nat) (rec : f75.Ty1 → Option (List Int)) (t76 : Int) (t77 : Int) (b0 : List Int) (b1 : List Int) (b2 : List Int) (b3 : List Int) : Option (List Int) :=
  bif (decide (t77 < t76)) then
    (f89.F K (b0, t77)).bind fun y29 =>
    bif (y29 == 1) then
      (f88.F K (b2, b3, b1)).bind fun y30 =>
      (f88.F K (b3, b3, b1)).bind fun y31 =>
      rec (t76, (IntKind.wrap .i64 (t77 + 1)), b0, b1, y30, y31)
    else
      (f88.F K (b3, b3, b1)).bind fun y33 =>
      rec (t76, (IntKind.wrap .i64 (t77 + 1)), b0, b1, b2, y33)
  else
    some b2
def f75.s4 (K : Nat) (rec : f75.Ty1 → Option (List Int)) (x : f75.Ty1) : Option (List Int) := f75.s4t K rec x.1 x.2.1 x.2.2.1 x.2.2.2.1 x.2.2.2.2.1 x.2.2.2.2.2
noncomputable def f75.s4.b : Code := (findLoop 4 f75.c).getD .skip
def f75.s4.h : Hint := { lv := [4, 5, 6, 15, 76, 77] }
def f75.s4.ho : Hint := { lv := [6] }
def f75.s4.shp (x : f75.Ty1) : VS := ⟨[(4, .ptr 0 0), (5, .ptr 1 0), (6, .ptr 2 0), (15, .ptr 3 0), (76, .int .i64 x.1), (77, .int .i64 x.2.1)], [(0, ([.ints .u64 4 x.2.2.1], 67, .norm)), (1, ([.ints .u64 4 x.2.2.2.1], 67, .norm)), (2, ([.ints .u64 4 x.2.2.2.2.1], 67, .norm)), (3, ([.ints .u64 4 x.2.2.2.2.2], 67, .norm))], 4⟩
def f75.s4.inX : VS → Option (f75.Ty1)
  | ⟨[(4, .ptr 0 0), (5, .ptr 1 0), (6, .ptr 2 0), (15, .ptr 3 0), (76, .int .i64 t76), (77, .int .i64 t77)], [(0, ([.ints .u64 4 b0], 67, .norm)), (1, ([.ints .u64 4 b1], 67, .norm)), (2, ([.ints .u64 4 b2], 67, .norm)), (3, ([.ints .u64 4 b3], 67, .norm))], 4⟩ => some (t76, t77, b0, b1, b2, b3)
  | _ => none
def f75.s4.o0 (y : List Int) : VS := ⟨[(6, .ptr 0 0)], [(0, ([.ints .u64 4 y], 67, .norm))], 1⟩
def f75.s4.des : ∀ α : Type, (List Int) → (Ex → VS → Option α) → Option α := (des1 (.exit 4) f75.s4.o0)
def f75.s4.out : List Int → Ex × VS := (fun y => (.exit 4, f75.s4.o0 y))
theorem f75.s4.desOK : ∀ α y (k : Ex → VS → Option α), f75.s4.des α y k = k (f75.s4.out y).1 (f75.s4.out y).2 := (fun _ _ _ => rfl)
def f75.s4.inY : Ex → VS → Option (List Int)
  | .exit 4, ⟨[(6, .ptr 0 0)], [(0, ([.ints .u64 4 b0], 67, .norm))], 1⟩ => some b0
  | _, _ => none
def f75.lp (K : Nat) : Nat → Option (Hint × Summ) := tabLp [(2, f75.s2.h, summOf (iter (f75.s2 K) K) f75.s2.inX f75.s2.des), (0, f75.s0.h, summOf (iter (f75.s0 K) K) f75.s0.inX f75.s0.des), (4, f75.s4.h, summOf (iter (f75.s4 K) K) f75.s4.inX f75.s4.des)]
noncomputable def f75.tab (K : Nat) : List (Nat × Entry) := [(84, (f84.E K)), (85, (f85.E K)), (86, (f86.E K)), (39, (f39.E K)), (55, (f55.E K)), (87, (f87.E K)), (88, (f88.E K)), (89, (f89.E K))]
theorem f75.tabOK (K : Nat) : SpecOK Try.prog (tabSp (f75.tab K)) := tab_ok ((tab_cons (f84.ok K) (tab_cons (f85.ok K) (tab_cons (f86.ok K) (tab_cons (f39.ok K) (tab_cons (f55.ok K) (tab_cons (f87.ok K) (tab_cons (f88.ok K) (tab_cons (f89.ok K) tab_nil)))))))))
theorem f75.s2.eq (K : Nat) (rec : f75.Ty0 → Option (f75.Ty2)) (x : f75.Ty0) : f75.s2 K rec x = roundL (getA tys) (tabSp (f75.tab K)) 94 0 (f75.lp K) 400 f75.s2.b f75.s2.h f75.s2.ho f75.s2.shp f75.s2.inX f75.s2.inY rec x := by kernel_rfl
theorem f75.s2.lok (K : Nat) : LoopsOK Try.prog 94 0 (f75.lp K) f75.s2.b := loops_ok (by
  have h : loopsIn (f75.lp K) f75.s2.b = [] := by kernel_rfl
  rw [h]; simp)
theorem f75.s2.ok (K : Nat) : SummOK Try.prog 94 0 (summOf (iter (f75.s2 K) K) f75.s2.inX f75.s2.des) f75.s2.b :=
  loop_ok mix tys_ok (f75.tabOK K) (h := f75.s2.h) (ho := f75.s2.ho) (shp := f75.s2.shp) (inX := f75.s2.inX) (des := f75.s2.des) (out := f75.s2.out) (inY := f75.s2.inY) (fuel := 400)
    (by intro st x h; unfold f75.s2.inX at h; split at h <;> simp at h; subst h; rfl)
    (by intro e st y h; unfold f75.s2.inY at h; split at h <;> simp at h <;> subst h <;> rfl)
    f75.s2.desOK (f75.s2.lok K) (f75.s2 K) (f75.s2.eq K) K
theorem f75.s0.eq (K : Nat) (rec : f75.Ty2 → Option (f75.Ty4)) (x : f75.Ty2) : f75.s0 K rec x = roundL (getA tys) (tabSp (f75.tab K)) 94 0 (f75.lp K) 400 f75.s0.b f75.s0.h f75.s0.ho f75.s0.shp f75.s0.inX f75.s0.inY rec x := by kernel_rfl
theorem f75.s0.lok (K : Nat) : LoopsOK Try.prog 94 0 (f75.lp K) f75.s0.b := loops_ok (by
  have h : loopsIn (f75.lp K) f75.s0.b = [(2, f75.s2.b)] := by kernel_rfl
  rw [h]
  intro p hp
  simp only [List.mem_cons, List.not_mem_nil, or_false] at hp
  rcases hp with rfl
  · exact ⟨_, rfl, (f75.s2.ok K)⟩)
theorem f75.s0.ok (K : Nat) : SummOK Try.prog 94 0 (summOf (iter (f75.s0 K) K) f75.s0.inX f75.s0.des) f75.s0.b :=
  loop_ok mix tys_ok (f75.tabOK K) (h := f75.s0.h) (ho := f75.s0.ho) (shp := f75.s0.shp) (inX := f75.s0.inX) (des := f75.s0.des) (out := f75.s0.out) (inY := f75.s0.inY) (fuel := 400)
    (by intro st x h; unfold f75.s0.inX at h; split at h <;> simp at h; subst h; rfl)
    (by intro e st y h; unfold f75.s0.inY at h; split at h <;> simp at h <;> subst h <;> rfl)
    f75.s0.desOK (f75.s0.lok K) (f75.s0 K) (f75.s0.eq K) K
theorem f75.s4.eq (K : Nat) (rec : f75.Ty1 → Option (List Int)) (x : f75.Ty1) : f75.s4 K rec x = roundL (getA tys) (tabSp (f75.tab K)) 94 0 (f75.lp K) 400 f75.s4.b f75.s4.h f75.s4.ho f75.s4.shp f75.s4.inX f75.s4.inY rec x := by kernel_rfl
theorem f75.s4.lok (K : Nat) : LoopsOK Try.prog 94 0 (f75.lp K) f75.s4.b := loops_ok (by
  have h : loopsIn (f75.lp K) f75.s4.b = [] := by kernel_rfl
  rw [h]; simp)
theorem f75.s4.ok (K : Nat) : SummOK Try.prog 94 0 (summOf (iter (f75.s4 K) K) f75.s4.inX f75.s4.des) f75.s4.b :=
  loop_ok mix tys_ok (f75.tabOK K) (h := f75.s4.h) (ho := f75.s4.ho) (shp := f75.s4.shp) (inX := f75.s4.inX) (des := f75.s4.des) (out := f75.s4.out) (inY := f75.s4.inY) (fuel := 400)
    (by intro st x h; unfold f75.s4.inX at h; split at h <;> simp at h; subst h; rfl)
    (by intro e st y h; unfold f75.s4.inY at h; split at h <;> simp at h <;> subst h <;> rfl)
    f75.s4.desOK (f75.s4.lok K) (f75.s4 K) (f75.s4.eq K) K
theorem f75.loops (K : Nat) : LoopsOK Try.prog 94 0 (f75.lp K) f75.c := loops_ok (by
  have h : loopsIn (f75.lp K) f75.c = [(0, f75.s0.b), (2, f75.s2.b), (4, f75.s4.b)] := by kernel_rfl
  rw [h]
  intro p hp
  simp only [List.mem_cons, List.not_mem_nil, or_false] at hp
  rcases hp with rfl | rfl | rfl
  · exact ⟨_, rfl, (f75.s0.ok K)⟩
  · exact ⟨_, rfl, (f75.s2.ok K)⟩
  · exact ⟨_, rfl, (f75.s4.ok K)⟩)
def f75.T (K : Nat) (a0 : List Int) (a1 : List Int) (a2 : List Int) : Option (f75.Ty5) :=
  (f84.F K ()).bind fun y1 =>
  bif (eqL 4 a2 y1 && true) then
    some ([0, 0, 0, 0], 1)
  else
    (f85.F K a2).bind fun y3 =>
    bif (decide (y3 ≤ 64)) then
      (iter (f75.s0 K) K (0, 2, 0, a2, [0, 0, 0, 0], (spl (spl [] 0 4 a1) 4 4 a0))).bind fun y18 =>
      (f39.F K y18.1).bind fun y19 =>
      some (y19, 0)
    else
      (f84.F K ()).bind fun y20 =>
      (f39.F K 1).bind fun y21 =>
      (f55.F K (y20, y21)).bind fun y22 =>
      (f87.F K (a0, a2)).bind fun y23 =>
      (f87.F K (y22.1, a2)).bind fun y24 =>
      (f39.F K 1).bind fun y25 =>
      (f88.F K (y24.2.1, y25, a2)).bind fun y26 =>
      (f85.F K a1).bind fun y27 =>
      (iter (f75.s4 K) K (y27, 0, a1, a2, y23.2.1, y26)).bind fun y35 =>
      some (y35, 0)
def f75.F (K : Nat) (x : f75.Ty3) : Option (f75.Ty5) := f75.T K x.1 x.2.1 x.2.2
def f75.av (x : f75.Ty3) : List VV := [.agg [.ints .u64 4 x.1], .agg [.ints .u64 4 x.2.1], .agg [.ints .u64 4 x.2.2]]
def f75.bl (_x : f75.Ty3) : List (Nat × Blk) := []
def f75.inA : VS → Option (f75.Ty3)
  | ⟨[(0, .agg [.ints .u64 4 a0]), (1, .agg [.ints .u64 4 a1]), (2, .agg [.ints .u64 4 a2])], [], 0⟩ => some (a0, a1, a2)
  | _ => none
def f75.o0 (y : f75.Ty5) : VS := ⟨[(0, .tup [.agg [.ints .u64 4 y.1], .int .i64 y.2])], [], 0⟩
def f75.des : ∀ α : Type, (f75.Ty5) → (VS → Option α) → Option α := (dv1 f75.o0)
def f75.out : f75.Ty5 → VS := f75.o0
def f75.inR : VS → Option (f75.Ty5)
  | ⟨[(0, .tup [.agg [.ints .u64 4 y_0], .int .i64 y_1])], [], 0⟩ => some (y_0, y_1)
  | _ => none
noncomputable def f75.E (K : Nat) : Entry := genE 0 f75.inA (f75.F K) f75.des
theorem f75.eq (K : Nat) (x : f75.Ty3) : f75.F K x = xrun (getA tys) (tabSp (f75.tab K)) Try.f75.ntmps 0 (f75.lp K) 400 f75.c ⟨initL 0 (f75.av x), f75.bl x, 0⟩ (contF (getA tys) 0 Try.f75.results.toList f75.inR) := by kernel_rfl
theorem f75.ok (K : Nat) : EntryOK Try.prog 75 (f75.E K) :=
  gen_ok mix tys_ok (f75.tabOK K) Try.func75 (by kernel_rfl : Try.f75.body = some f75.c) (by kernel_rfl) (f75.loops K) (av := f75.av) (bl := f75.bl) (out := f75.out) (fuel := 400)
    (by intro s x h; unfold f75.inA at h; split at h <;> simp at h; subst h; rfl) (fun _ => Nat.le_of_ble_eq_true rfl)
    (by intro s y h; unfold f75.inR at h; split at h <;> simp at h <;> subst h <;> rfl) (fun _ _ _ => rfl) (f75.eq K)
end Go.Proofs

namespace Go.Proofs
open Go.VM
end Go.Proofs

namespace Go.Proofs
open Go.VM
def Sh.cut (name : List Int) (ps : List (List Int)) : List Int := Sh.frame name ++ be 4 ps.length ++ ps.flatMap Sh.frame
end Go.Proofs

namespace Go.Proofs
open Go.VM
abbrev f18.Ty0 := List Int × Nat × List Int
abbrev f18.Ty1 := Nat × Nat × List Int
def f18.T (K : Nat) (a0 : Nat) (m0_0 : Nat) (m0_1 : List Int) : Option (f18.Ty0) :=
  (f42.F K ()).bind fun y1 =>
  bif ((Nat.ble (0 + a0) m0_0 && true) && true) then
    (f40.F K (y1.1, y1.2.1, y1.2.2.1, a0, y1.2.2.2, a0, (subI m0_1 0 a0))).bind fun y2 =>
    (f16v2.F K (y2.1, y2.2.1, y2.2.2.1, y2.2.2.2.2.2.2)).bind fun y3 =>
    some (y3.1, m0_0, m0_1)
  else
    none
def f18.F (K : Nat) (x : f18.Ty1) : Option (f18.Ty0) := f18.T K x.1 x.2.1 x.2.2
def f18.av (x : f18.Ty1) : List VV := [.vw true 0 0 x.1 1]
def f18.bl (x : f18.Ty1) : List (Nat × Blk) := [(0, ([.ints .u8 x.2.1 x.2.2], 0, .ro))]
def f18.inA : VS → Option (f18.Ty1)
  | ⟨[(0, .vw true 0 0 a0 1)], [(0, ([.ints .u8 m0_0 m0_1], 0, .ro))], 2⟩ => some (a0, m0_0, m0_1)
  | _ => none
def f18.o0 (y : f18.Ty0) : VS := ⟨[(0, .agg [.ints .u8 32 y.1])], [(0, ([.ints .u8 y.2.1 y.2.2], 0, .ro))], 2⟩
def f18.inR : VS → Option (f18.Ty0)
  | ⟨[(0, .agg [.ints .u8 32 y])], [(0, ([.ints .u8 z0_0 z0_1], 0, .ro))], 2⟩ => some (y, z0_0, z0_1)
  | _ => none
noncomputable def f18.E (K : Nat) : Entry := genE 2 f18.inA (f18.F K) (dv1 f18.o0)
theorem f18.ok (K : Nat) : EntryOK Try.prog 18 (f18.E K) := gen_ok mix tys_ok (sp := tabSp [(42, (f42.E K)), (40, (rowsE 1 .u8 (f40.E K))), (16, (f16v2.E K))]) (tab_ok ((tab_cons (f42.ok K) (tab_cons (rows_ok (f40.ok K)) (tab_cons (f16v2.ok K) tab_nil))))) Try.func18 (c := bodyOf Try.f18) (by kernel_rfl) (by kernel_rfl) (loops_none (lp := lpNone) (by kernel_rfl)) (av := f18.av) (bl := f18.bl) (inR := f18.inR) (out := f18.o0) (fuel := 400)
  (by intro s x h; unfold f18.inA at h; split at h <;> simp at h; subst h; rfl) (fun _ => Nat.le_of_ble_eq_true rfl)
  (by intro s y h; unfold f18.inR at h; split at h <;> simp at h <;> subst h <;> rfl) (fun _ _ _ => rfl) (fun _ => by kernel_rfl)
end Go.Proofs

namespace Go.Proofs
open Go.VM
abbrev f15v2.Ty0 := Int × List Int × Int × Int × Nat × List Int × List Int
abbrev f15v2.Ty1 := Nat × List Int × Int × Int × Nat × List Int × List Int
def f15v2.T (K : Nat) (a1 : Nat) (m0_0 : List Int) (m0_1 : Int) (m0_2 : Int) (m1_0 : Nat) (m1_1 : List Int) (m3 : List Int) : Option (f15v2.Ty0) :=
  bif ((Nat.ble (0 + a1) m1_0 && true) && true) then
    (f40.F K (m0_0, m0_1, m0_2, a1, m3, a1, (subI m1_1 0 a1))).bind fun y1 =>
    some (0, y1.1, y1.2.1, y1.2.2.1, m1_0, m1_1, y1.2.2.2.2.2.2)
  else
    none
def f15v2.F (K : Nat) (x : f15v2.Ty1) : Option (f15v2.Ty0) := f15v2.T K x.1 x.2.1 x.2.2.1 x.2.2.2.1 x.2.2.2.2.1 x.2.2.2.2.2.1 x.2.2.2.2.2.2
def f15v2.av (x : f15v2.Ty1) : List VV := [.ptr 0 0, .vw true 1 0 x.1 2]
def f15v2.bl (x : f15v2.Ty1) : List (Nat × Blk) := [(0, ([.ptr 3 0, .ints .u8 64 x.2.1, .int .i64 x.2.2.1, .int .u64 x.2.2.2.1], 30, .norm)), (1, ([.ints .u8 x.2.2.2.2.1 x.2.2.2.2.2.1], 0, .ro)), (3, ([.ints .u32 8 x.2.2.2.2.2.2], 110, .norm))]
def f15v2.inA : VS → Option (f15v2.Ty1)
  | ⟨[(0, .ptr 0 0), (1, .vw true 1 0 a1 2)], [(0, ([.ptr 3 0, .ints .u8 64 m0_0, .int .i64 m0_1, .int .u64 m0_2], 30, .norm)), (1, ([.ints .u8 m1_0 m1_1], 0, .ro)), (3, ([.ints .u32 8 m3], 110, .norm))], 4⟩ => some (a1, m0_0, m0_1, m0_2, m1_0, m1_1, m3)
  | _ => none
def f15v2.o0 (y : f15v2.Ty0) : VS := ⟨[(0, .int .i64 y.1)], [(0, ([.ptr 4 0, .ints .u8 64 y.2.1, .int .i64 y.2.2.1, .int .u64 y.2.2.2.1], 30, .norm)), (1, ([.ints .u8 y.2.2.2.2.1 y.2.2.2.2.2.1], 0, .ro)), (3, ([], 110, .dead)), (4, ([.ints .u32 8 y.2.2.2.2.2.2], 110, .norm))], 5⟩
def f15v2.inR : VS → Option (f15v2.Ty0)
  | ⟨[(0, .int .i64 y)], [(0, ([.ptr 4 0, .ints .u8 64 z0_0, .int .i64 z0_1, .int .u64 z0_2], 30, .norm)), (1, ([.ints .u8 z1_0 z1_1], 0, .ro)), (3, ([], 110, .dead)), (4, ([.ints .u32 8 z4], 110, .norm))], 5⟩ => some (y, z0_0, z0_1, z0_2, z1_0, z1_1, z4)
  | _ => none
noncomputable def f15v2.E (K : Nat) : Entry := genE 4 f15v2.inA (f15v2.F K) (dv1 f15v2.o0)
theorem f15v2.ok (K : Nat) : EntryOK Try.prog 15 (f15v2.E K) := gen_ok mix tys_ok (sp := tabSp [(40, (rowsE 1 .u8 (f40.E K)))]) (tab_ok ((tab_cons (rows_ok (f40.ok K)) tab_nil))) Try.func15 (c := bodyOf Try.f15) (by kernel_rfl) (by kernel_rfl) (loops_none (lp := lpNone) (by kernel_rfl)) (av := f15v2.av) (bl := f15v2.bl) (inR := f15v2.inR) (out := f15v2.o0) (fuel := 400)
  (by intro s x h; unfold f15v2.inA at h; split at h <;> simp at h; subst h; rfl) (fun _ => Nat.le_of_ble_eq_true rfl)
  (by intro s y h; unfold f15v2.inR at h; split at h <;> simp at h <;> subst h <;> rfl) (fun _ _ _ => rfl) (fun _ => by kernel_rfl)
end Go.Proofs

namespace Go.Proofs
open Go.VM
abbrev f46.Ty0 := Int × Int × List Int × List Int
abbrev f46.Ty1 := List Int × List Int
abbrev f46.Ty2 := Int × List Int
noncomputable def f46.c : Code := bodyOf Try.f46
def f46.s0t (_K : Nat) (rec : f46.Ty0 → Option (f46.Ty1)) (t0 : Int) (t7 : Int) (b0 : List Int) (b1 : List Int) : Option (f46.Ty1) :=
  bif (decide (t7 < 64)) then
    bif decide (0 ≤ t7 ∧ t7 < 64) then
      bif decide (0 ≤ t7 ∧ t7 < 64) then
        rec (t0, (IntKind.wrap .i64 (t7 + 1)), b0, (setD b1 (Int.toNat t7) (bits .xor .u8 (List.getD b1 (Int.toNat t7) 0) t0)))
      else
        none
    else
      none
  else
    some (b0, b1)
def f46.s0 (K : Nat) (rec : f46.Ty0 → Option (f46.Ty1)) (x : f46.Ty0) : Option (f46.Ty1) := f46.s0t K rec x.1 x.2.1 x.2.2.1 x.2.2.2
noncomputable def f46.s0.b : Code := (findLoop 0 f46.c).getD .skip
def f46.s0.h : Hint := { lv := [0, 4, 7] }
def f46.s0.ho : Hint := { lv := [4] }
def f46.s0.shp (x : f46.Ty0) : VS := ⟨[(0, .int .u8 x.1), (4, .ptr 1 0), (7, .int .i64 x.2.1)], [(0, ([.ints .u8 64 x.2.2.1], 25, .norm)), (1, ([.ints .u8 64 x.2.2.2], 25, .norm))], 2⟩
def f46.s0.inX : VS → Option (f46.Ty0)
  | ⟨[(0, .int .u8 t0), (4, .ptr 1 0), (7, .int .i64 t7)], [(0, ([.ints .u8 64 b0], 25, .norm)), (1, ([.ints .u8 64 b1], 25, .norm))], 2⟩ => some (t0, t7, b0, b1)
  | _ => none
def f46.s0.o0 (y : f46.Ty1) : VS := ⟨[(4, .ptr 1 0)], [(0, ([.ints .u8 64 y.1], 25, .norm)), (1, ([.ints .u8 64 y.2], 25, .norm))], 2⟩
def f46.s0.des : ∀ α : Type, (f46.Ty1) → (Ex → VS → Option α) → Option α := (des1 (.exit 0) f46.s0.o0)
def f46.s0.out : f46.Ty1 → Ex × VS := (fun y => (.exit 0, f46.s0.o0 y))
theorem f46.s0.desOK : ∀ α y (k : Ex → VS → Option α), f46.s0.des α y k = k (f46.s0.out y).1 (f46.s0.out y).2 := (fun _ _ _ => rfl)
def f46.s0.inY : Ex → VS → Option (f46.Ty1)
  | .exit 0, ⟨[(4, .ptr 1 0)], [(0, ([.ints .u8 64 b0], 25, .norm)), (1, ([.ints .u8 64 b1], 25, .norm))], 2⟩ => some (b0, b1)
  | _, _ => none
def f46.lp (K : Nat) : Nat → Option (Hint × Summ) := tabLp [(0, f46.s0.h, summOf (iter (f46.s0 K) K) f46.s0.inX f46.s0.des)]
noncomputable def f46.tab (_K : Nat) : List (Nat × Entry) := []
theorem f46.tabOK (K : Nat) : SpecOK Try.prog (tabSp (f46.tab K)) := tab_ok ( tab_nil)
theorem f46.s0.eq (K : Nat) (rec : f46.Ty0 → Option (f46.Ty1)) (x : f46.Ty0) : f46.s0 K rec x = roundL (getA tys) (tabSp (f46.tab K)) 18 1 (f46.lp K) 400 f46.s0.b f46.s0.h f46.s0.ho f46.s0.shp f46.s0.inX f46.s0.inY rec x := by kernel_rfl
theorem f46.s0.lok (K : Nat) : LoopsOK Try.prog 18 1 (f46.lp K) f46.s0.b := loops_ok (by
  have h : loopsIn (f46.lp K) f46.s0.b = [] := by kernel_rfl
  rw [h]; simp)
theorem f46.s0.ok (K : Nat) : SummOK Try.prog 18 1 (summOf (iter (f46.s0 K) K) f46.s0.inX f46.s0.des) f46.s0.b :=
  loop_ok mix tys_ok (f46.tabOK K) (h := f46.s0.h) (ho := f46.s0.ho) (shp := f46.s0.shp) (inX := f46.s0.inX) (des := f46.s0.des) (out := f46.s0.out) (inY := f46.s0.inY) (fuel := 400)
    (by intro st x h; unfold f46.s0.inX at h; split at h <;> simp at h; subst h; rfl)
    (by intro e st y h; unfold f46.s0.inY at h; split at h <;> simp at h <;> subst h <;> rfl)
    f46.s0.desOK (f46.s0.lok K) (f46.s0 K) (f46.s0.eq K) K
theorem f46.loops (K : Nat) : LoopsOK Try.prog 18 1 (f46.lp K) f46.c := loops_ok (by
  have h : loopsIn (f46.lp K) f46.c = [(0, f46.s0.b)] := by kernel_rfl
  rw [h]
  intro p hp
  simp only [List.mem_cons, List.not_mem_nil, or_false] at hp
  rcases hp with rfl
  · exact ⟨_, rfl, (f46.s0.ok K)⟩)
def f46.T (K : Nat) (a0 : Int) (m0 : List Int) : Option (f46.Ty1) :=
  (iter (f46.s0 K) K (a0, 0, m0, m0)).bind fun y8 =>
  some (y8.1, y8.2)
def f46.F (K : Nat) (x : f46.Ty2) : Option (f46.Ty1) := f46.T K x.1 x.2
def f46.av (x : f46.Ty2) : List VV := [.int .u8 x.1, .ptr 0 0]
def f46.bl (x : f46.Ty2) : List (Nat × Blk) := [(0, ([.ints .u8 64 x.2], 25, .norm))]
def f46.inA : VS → Option (f46.Ty2)
  | ⟨[(0, .int .u8 a0), (1, .ptr 0 0)], [(0, ([.ints .u8 64 m0], 25, .norm))], 1⟩ => some (a0, m0)
  | _ => none
def f46.o0 (y : f46.Ty1) : VS := ⟨[(0, .sl 1 0 64 64)], [(0, ([.ints .u8 64 y.1], 25, .norm)), (1, ([.ints .u8 64 y.2], 25, .norm))], 2⟩
def f46.des : ∀ α : Type, (f46.Ty1) → (VS → Option α) → Option α := (dv1 f46.o0)
def f46.out : f46.Ty1 → VS := f46.o0
def f46.inR : VS → Option (f46.Ty1)
  | ⟨[(0, .sl 1 0 64 64)], [(0, ([.ints .u8 64 z0], 25, .norm)), (1, ([.ints .u8 64 z1], 25, .norm))], 2⟩ => some (z0, z1)
  | _ => none
noncomputable def f46.E (K : Nat) : Entry := genE 1 f46.inA (f46.F K) f46.des
theorem f46.eq (K : Nat) (x : f46.Ty2) : f46.F K x = xrun (getA tys) (tabSp (f46.tab K)) Try.f46.ntmps 1 (f46.lp K) 400 f46.c ⟨initL 0 (f46.av x), f46.bl x, 1⟩ (contF (getA tys) 1 Try.f46.results.toList f46.inR) := by kernel_rfl
theorem f46.ok (K : Nat) : EntryOK Try.prog 46 (f46.E K) :=
  gen_ok mix tys_ok (f46.tabOK K) Try.func46 (by kernel_rfl : Try.f46.body = some f46.c) (by kernel_rfl) (f46.loops K) (av := f46.av) (bl := f46.bl) (out := f46.out) (fuel := 400)
    (by intro s x h; unfold f46.inA at h; split at h <;> simp at h; subst h; rfl) (fun _ => Nat.le_of_ble_eq_true rfl)
    (by intro s y h; unfold f46.inR at h; split at h <;> simp at h <;> subst h <;> rfl) (fun _ _ _ => rfl) (f46.eq K)
end Go.Proofs

namespace Go.Proofs
open Go.VM
abbrev f22v1.Ty0 := List Int × Nat × List Int × Nat × Nat × Nat × List Int × Nat × List Int
abbrev f22v1.Ty1 := Nat × Nat × List Int × Nat × Nat × Nat × List Int × Nat × List Int
def f22v1.T (K : Nat) (a0 : Nat) (m0_0 : Nat) (m0_1 : List Int) (m2_0 : Nat) (m2_1 : Nat) (m4_0 : Nat) (m4_1 : List Int) (m6_0 : Nat) (m6_1 : List Int) : Option (f22v1.Ty0) :=
  bif (decide (((a0 : Nat) : Int) > 64)) then
    bif ((Nat.ble (0 + a0) m0_0 && true) && true) then
      (f18.F K (a0, a0, (subI m0_1 0 a0))).bind fun y3 =>
      (f42.F K ()).bind fun y5 =>
      (f42.F K ()).bind fun y6 =>
      (f46.F K (54, (spl [0, 0, 0, 0, 0, 0, 0, 0, 0, 0, 0, 0, 0, 0, 0, 0, 0, 0, 0, 0, 0, 0, 0, 0, 0, 0, 0, 0, 0, 0, 0, 0, 0, 0, 0, 0, 0, 0, 0, 0, 0, 0, 0, 0, 0, 0, 0, 0, 0, 0, 0, 0, 0, 0, 0, 0, 0, 0, 0, 0, 0, 0, 0, 0] 0 32 (subI y3.1 0 32)))).bind fun y7 =>
      (f15v2.F K (64, y5.1, y5.2.1, y5.2.2.1, 64, (subI y7.2 0 64), y5.2.2.2)).bind fun y8 =>
      bif ((Nat.ble (0 + m2_0) m4_0 && true) && true) then
        (f15v2.F K (m2_0, y8.2.1, y8.2.2.1, y8.2.2.2.1, m2_0, (subI m4_1 0 m2_0), y8.2.2.2.2.2.2)).bind fun y9 =>
        bif ((Nat.ble (0 + m2_1) m6_0 && true) && true) then
          (f15v2.F K (m2_1, y9.2.1, y9.2.2.1, y9.2.2.2.1, m2_1, (subI m6_1 0 m2_1), y9.2.2.2.2.2.2)).bind fun y10 =>
          (f16v2.F K (y10.2.1, y10.2.2.1, y10.2.2.2.1, y10.2.2.2.2.2.2)).bind fun y11 =>
          (f46.F K (92, y7.1)).bind fun y12 =>
          (f15v2.F K (64, y6.1, y6.2.1, y6.2.2.1, 64, (subI y12.2 0 64), y6.2.2.2)).bind fun y13 =>
          (f15v2.F K (32, y13.2.1, y13.2.2.1, y13.2.2.2.1, 32, (subI y11.1 0 32), y13.2.2.2.2.2.2)).bind fun y14 =>
          (f16v2.F K (y14.2.1, y14.2.2.1, y14.2.2.2.1, y14.2.2.2.2.2.2)).bind fun y15 =>
          some (y15.1, m0_0, m0_1, m2_0, m2_1, m4_0, m4_1, m6_0, m6_1)
        else
          none
      else
        none
    else
      none
  else
    bif ((Nat.ble (0 + a0) m0_0 && true) && (Nat.beq a0 a0)) then
      (f42.F K ()).bind fun y18 =>
      (f42.F K ()).bind fun y19 =>
      (f46.F K (54, (spl [0, 0, 0, 0, 0, 0, 0, 0, 0, 0, 0, 0, 0, 0, 0, 0, 0, 0, 0, 0, 0, 0, 0, 0, 0, 0, 0, 0, 0, 0, 0, 0, 0, 0, 0, 0, 0, 0, 0, 0, 0, 0, 0, 0, 0, 0, 0, 0, 0, 0, 0, 0, 0, 0, 0, 0, 0, 0, 0, 0, 0, 0, 0, 0] 0 (Nat.min a0 64) (subI m0_1 0 a0)))).bind fun y20 =>
      (f15v2.F K (64, y18.1, y18.2.1, y18.2.2.1, 64, (subI y20.2 0 64), y18.2.2.2)).bind fun y21 =>
      bif ((Nat.ble (0 + m2_0) m4_0 && true) && true) then
        (f15v2.F K (m2_0, y21.2.1, y21.2.2.1, y21.2.2.2.1, m2_0, (subI m4_1 0 m2_0), y21.2.2.2.2.2.2)).bind fun y22 =>
        bif ((Nat.ble (0 + m2_1) m6_0 && true) && true) then
          (f15v2.F K (m2_1, y22.2.1, y22.2.2.1, y22.2.2.2.1, m2_1, (subI m6_1 0 m2_1), y22.2.2.2.2.2.2)).bind fun y23 =>
          (f16v2.F K (y23.2.1, y23.2.2.1, y23.2.2.2.1, y23.2.2.2.2.2.2)).bind fun y24 =>
          (f46.F K (92, y20.1)).bind fun y25 =>
          (f15v2.F K (64, y19.1, y19.2.1, y19.2.2.1, 64, (subI y25.2 0 64), y19.2.2.2)).bind fun y26 =>
          (f15v2.F K (32, y26.2.1, y26.2.2.1, y26.2.2.2.1, 32, (subI y24.1 0 32), y26.2.2.2.2.2.2)).bind fun y27 =>
          (f16v2.F K (y27.2.1, y27.2.2.1, y27.2.2.2.1, y27.2.2.2.2.2.2)).bind fun y28 =>
          some (y28.1, m0_0, m0_1, m2_0, m2_1, m4_0, m4_1, m6_0, m6_1)
        else
          none
      else
        none
    else
      none
def f22v1.F (K : Nat) (x : f22v1.Ty1) : Option (f22v1.Ty0) := f22v1.T K x.1 x.2.1 x.2.2.1 x.2.2.2.1 x.2.2.2.2.1 x.2.2.2.2.2.1 x.2.2.2.2.2.2.1 x.2.2.2.2.2.2.2.1 x.2.2.2.2.2.2.2.2
def f22v1.av (x : f22v1.Ty1) : List VV := [.vw true 0 0 x.1 1, .vw true 2 0 2 3]
def f22v1.bl (x : f22v1.Ty1) : List (Nat × Blk) := [(0, ([.ints .u8 x.2.1 x.2.2.1], 0, .ro)), (2, ([.vw true 4 0 x.2.2.2.1 5, .vw true 6 0 x.2.2.2.2.1 7], 0, .ro)), (4, ([.ints .u8 x.2.2.2.2.2.1 x.2.2.2.2.2.2.1], 0, .ro)), (6, ([.ints .u8 x.2.2.2.2.2.2.2.1 x.2.2.2.2.2.2.2.2], 0, .ro))]
def f22v1.inA : VS → Option (f22v1.Ty1)
  | ⟨[(0, .vw true 0 0 a0 1), (1, .vw true 2 0 2 3)], [(0, ([.ints .u8 m0_0 m0_1], 0, .ro)), (2, ([.vw true 4 0 m2_0 5, .vw true 6 0 m2_1 7], 0, .ro)), (4, ([.ints .u8 m4_0 m4_1], 0, .ro)), (6, ([.ints .u8 m6_0 m6_1], 0, .ro))], 8⟩ => some (a0, m0_0, m0_1, m2_0, m2_1, m4_0, m4_1, m6_0, m6_1)
  | _ => none
def f22v1.o0 (y : f22v1.Ty0) : VS := ⟨[(0, .agg [.ints .u8 32 y.1])], [(0, ([.ints .u8 y.2.1 y.2.2.1], 0, .ro)), (2, ([.vw true 4 0 y.2.2.2.1 5, .vw true 6 0 y.2.2.2.2.1 7], 0, .ro)), (4, ([.ints .u8 y.2.2.2.2.2.1 y.2.2.2.2.2.2.1], 0, .ro)), (6, ([.ints .u8 y.2.2.2.2.2.2.2.1 y.2.2.2.2.2.2.2.2], 0, .ro))], 8⟩
def f22v1.inR : VS → Option (f22v1.Ty0)
  | ⟨[(0, .agg [.ints .u8 32 y])], [(0, ([.ints .u8 z0_0 z0_1], 0, .ro)), (2, ([.vw true 4 0 z2_0 5, .vw true 6 0 z2_1 7], 0, .ro)), (4, ([.ints .u8 z4_0 z4_1], 0, .ro)), (6, ([.ints .u8 z6_0 z6_1], 0, .ro))], 8⟩ => some (y, z0_0, z0_1, z2_0, z2_1, z4_0, z4_1, z6_0, z6_1)
  | _ => none
noncomputable def f22v1.E (K : Nat) : Entry := genE 8 f22v1.inA (f22v1.F K) (dv1 f22v1.o0)
theorem f22v1.ok (K : Nat) : EntryOK Try.prog 22 (f22v1.E K) := gen_ok mix tys_ok (sp := tabSp [(18, (viewE [(0, .u8)] (f18.E K))), (42, (f42.E K)), (46, (f46.E K)), (15, (viewE [(1, .u8)] (f15v2.E K))), (16, (f16v2.E K))]) (tab_ok ((tab_cons (view_ok (f18.ok K)) (tab_cons (f42.ok K) (tab_cons (f46.ok K) (tab_cons (view_ok (f15v2.ok K)) (tab_cons (f16v2.ok K) tab_nil))))))) Try.func22 (c := bodyOf Try.f22) (by kernel_rfl) (by kernel_rfl) (loops_none (lp := lpNone) (by kernel_rfl)) (av := f22v1.av) (bl := f22v1.bl) (inR := f22v1.inR) (out := f22v1.o0) (fuel := 400)
  (by intro s x h; unfold f22v1.inA at h; split at h <;> simp at h; subst h; rfl) (fun _ => Nat.le_of_ble_eq_true rfl)
  (by intro s y h; unfold f22v1.inR at h; split at h <;> simp at h <;> subst h <;> rfl) (fun _ _ _ => rfl) (fun _ => by kernel_rfl)
end Go.Proofs

namespace Go.Proofs
open Go.VM
end Go.Proofs

namespace Go.Proofs
open Go.VM
def Sh.xr (by' : Int) (k : List Int) : List Int := k.map fun x => bits .xor .u8 x by'
def Sh.key (k : List Int) : List Int := padT (if 64 < k.length then Sh.sum k else k) 64
def Sh.mac (k m : List Int) : List Int := Sh.sum (Sh.xr 92 (Sh.key k) ++ Sh.sum (Sh.xr 54 (Sh.key k) ++ m))
end Go.Proofs

namespace Go.Proofs
open Go.VM
abbrev f33.Ty0 := List Int × List Int × List Int
def f33.T (_K : Nat) (_a1_0 : List Int) (_a1_1 : List Int) (_a1_2 : List Int) : Option (List Int × Int) :=
  some ([0, 0, 0, 0], 2)
def f33.F (K : Nat) (x : f33.Ty0) : Option (List Int × Int) := f33.T K x.1 x.2.1 x.2.2
def f33.av (x : f33.Ty0) : List VV := [.raw (.pointer none), .agg [.ints .u64 4 x.1, .ints .u64 4 x.2.1, .ints .u64 4 x.2.2]]
def f33.bl (_x : f33.Ty0) : List (Nat × Blk) := []
def f33.inA : VS → Option (f33.Ty0)
  | ⟨[(0, .raw (.pointer none)), (1, .agg [.ints .u64 4 a1_0, .ints .u64 4 a1_1, .ints .u64 4 a1_2])], [], 0⟩ => some (a1_0, a1_1, a1_2)
  | _ => none
def f33.o0 (y : List Int × Int) : VS := ⟨[(0, .tup [.agg [.ints .u64 4 y.1], .int .i64 y.2])], [], 0⟩
def f33.inR : VS → Option (List Int × Int)
  | ⟨[(0, .tup [.agg [.ints .u64 4 y_0], .int .i64 y_1])], [], 0⟩ => some (y_0, y_1)
  | _ => none
noncomputable def f33.E (K : Nat) : Entry := genE 0 f33.inA (f33.F K) (dv1 f33.o0)
theorem f33.ok (K : Nat) : EntryOK Try.prog 33 (f33.E K) := gen_ok mix tys_ok (tab_ok ( tab_nil)) Try.func33 (c := bodyOf Try.f33) (by kernel_rfl) (by kernel_rfl) (loops_none (lp := lpNone) (by kernel_rfl)) (av := f33.av) (bl := f33.bl) (inR := f33.inR) (out := f33.o0) (fuel := 400)
  (by intro s x h; unfold f33.inA at h; split at h <;> simp at h; subst h; rfl) (fun _ => Nat.le_of_ble_eq_true rfl)
  (by intro s y h; unfold f33.inR at h; split at h <;> simp at h <;> subst h <;> rfl) (fun _ _ _ => rfl) (fun _ => by kernel_rfl)
end Go.Proofs

namespace Go.Proofs
open Go.VM
def f58.T (_K : Nat)  : Option (List Int) :=
  some ([0, 0, 0, 0, 0, 0, 0, 0, 0, 0, 0, 0, 0, 0, 0, 0, 0, 0, 0, 0, 0, 0, 0, 0, 0, 0, 0, 0, 0, 0, 0, 0])
def f58.F (K : Nat) (_x : Unit) : Option (List Int) := f58.T K
def f58.av (_x : Unit) : List VV := [.raw (.pointer none), .fn 54 []]
def f58.bl (_x : Unit) : List (Nat × Blk) := []
def f58.inA : VS → Option (Unit)
  | ⟨[(0, .raw (.pointer none)), (1, .fn 54 [])], [], 0⟩ => some ()
  | _ => none
def f58.o0 (y : List Int) : VS := ⟨[(0, .agg [.ints .u8 32 y])], [], 0⟩
def f58.inR : VS → Option (List Int)
  | ⟨[(0, .agg [.ints .u8 32 y])], [], 0⟩ => some y
  | _ => none
noncomputable def f58.E (K : Nat) : Entry := genE 0 f58.inA (f58.F K) (dv1 f58.o0)
theorem f58.ok (K : Nat) : EntryOK Try.prog 58 (f58.E K) := gen_ok mix tys_ok (tab_ok ( tab_nil)) Try.func58 (c := bodyOf Try.f58) (by kernel_rfl) (by kernel_rfl) (loops_none (lp := lpNone) (by kernel_rfl)) (av := f58.av) (bl := f58.bl) (inR := f58.inR) (out := f58.o0) (fuel := 400)
  (by intro s x h; unfold f58.inA at h; split at h <;> simp at h; rfl) (fun _ => Nat.le_of_ble_eq_true rfl)
  (by intro s y h; unfold f58.inR at h; split at h <;> simp at h <;> subst h <;> rfl) (fun _ _ _ => rfl) (fun _ => by kernel_rfl)
end Go.Proofs

namespace Go.Proofs
open Go.VM
def f34.T (K : Nat)  : Option (List Int) :=
  (f58.F K ()).bind fun y1 =>
  some y1
def f34.F (K : Nat) (_x : Unit) : Option (List Int) := f34.T K
def f34.av (_x : Unit) : List VV := [.raw (.pointer none)]
def f34.bl (_x : Unit) : List (Nat × Blk) := []
def f34.inA : VS → Option (Unit)
  | ⟨[(0, .raw (.pointer none))], [], 0⟩ => some ()
  | _ => none
def f34.o0 (y : List Int) : VS := ⟨[(0, .agg [.ints .u8 32 y])], [], 0⟩
def f34.inR : VS → Option (List Int)
  | ⟨[(0, .agg [.ints .u8 32 y])], [], 0⟩ => some y
  | _ => none
noncomputable def f34.E (K : Nat) : Entry := genE 0 f34.inA (f34.F K) (dv1 f34.o0)
theorem f34.ok (K : Nat) : EntryOK Try.prog 34 (f34.E K) := gen_ok mix tys_ok (tab_ok ((tab_cons (f58.ok K) tab_nil))) Try.func34 (c := bodyOf Try.f34) (by kernel_rfl) (by kernel_rfl) (loops_none (lp := lpNone) (by kernel_rfl)) (av := f34.av) (bl := f34.bl) (inR := f34.inR) (out := f34.o0) (fuel := 400)
  (by intro s x h; unfold f34.inA at h; split at h <;> simp at h; rfl) (fun _ => Nat.le_of_ble_eq_true rfl)
  (by intro s y h; unfold f34.inR at h; split at h <;> simp at h <;> subst h <;> rfl) (fun _ _ _ => rfl) (fun _ => by kernel_rfl)
end Go.Proofs

namespace Go.Proofs
open Go.VM
def f59.T (_K : Nat)  : Option (Int) :=
  some (0)
def f59.F (K : Nat) (_x : Unit) : Option (Int) := f59.T K
def f59.av (_x : Unit) : List VV := [.raw (.pointer none), .fn 60 []]
def f59.bl (_x : Unit) : List (Nat × Blk) := []
def f59.inA : VS → Option (Unit)
  | ⟨[(0, .raw (.pointer none)), (1, .fn 60 [])], [], 0⟩ => some ()
  | _ => none
def f59.o0 (y : Int) : VS := ⟨[(0, .int .u64 y)], [], 0⟩
def f59.inR : VS → Option (Int)
  | ⟨[(0, .int .u64 y)], [], 0⟩ => some y
  | _ => none
noncomputable def f59.E (K : Nat) : Entry := genE 0 f59.inA (f59.F K) (dv1 f59.o0)
theorem f59.ok (K : Nat) : EntryOK Try.prog 59 (f59.E K) := gen_ok mix tys_ok (tab_ok ( tab_nil)) Try.func59 (c := bodyOf Try.f59) (by kernel_rfl) (by kernel_rfl) (loops_none (lp := lpNone) (by kernel_rfl)) (av := f59.av) (bl := f59.bl) (inR := f59.inR) (out := f59.o0) (fuel := 400)
  (by intro s x h; unfold f59.inA at h; split at h <;> simp at h; rfl) (fun _ => Nat.le_of_ble_eq_true rfl)
  (by intro s y h; unfold f59.inR at h; split at h <;> simp at h <;> subst h <;> rfl) (fun _ _ _ => rfl) (fun _ => by kernel_rfl)
end Go.Proofs

namespace Go.Proofs
open Go.VM
def f35.T (K : Nat)  : Option (Int) :=
  (f59.F K ()).bind fun y1 =>
  some y1
def f35.F (K : Nat) (_x : Unit) : Option (Int) := f35.T K
def f35.av (_x : Unit) : List VV := [.raw (.pointer none)]
def f35.bl (_x : Unit) : List (Nat × Blk) := []
def f35.inA : VS → Option (Unit)
  | ⟨[(0, .raw (.pointer none))], [], 0⟩ => some ()
  | _ => none
def f35.o0 (y : Int) : VS := ⟨[(0, .int .u64 y)], [], 0⟩
def f35.inR : VS → Option (Int)
  | ⟨[(0, .int .u64 y)], [], 0⟩ => some y
  | _ => none
noncomputable def f35.E (K : Nat) : Entry := genE 0 f35.inA (f35.F K) (dv1 f35.o0)
theorem f35.ok (K : Nat) : EntryOK Try.prog 35 (f35.E K) := gen_ok mix tys_ok (tab_ok ((tab_cons (f59.ok K) tab_nil))) Try.func35 (c := bodyOf Try.f35) (by kernel_rfl) (by kernel_rfl) (loops_none (lp := lpNone) (by kernel_rfl)) (av := f35.av) (bl := f35.bl) (inR := f35.inR) (out := f35.o0) (fuel := 400)
  (by intro s x h; unfold f35.inA at h; split at h <;> simp at h; rfl) (fun _ => Nat.le_of_ble_eq_true rfl)
  (by intro s y h; unfold f35.inR at h; split at h <;> simp at h <;> subst h <;> rfl) (fun _ _ _ => rfl) (fun _ => by kernel_rfl)
end Go.Proofs

namespace Go.Proofs
open Go.VM
abbrev f53.Ty0 := Bool × Int × Int × List Int
abbrev f53.Ty1 := Int × Int × List Int
def f53.T (_K : Nat) (m0_0 : Int) (m0_1 : Int) (m0_2 : List Int) : Option (f53.Ty0) :=
  some ((m0_1 == 1), m0_0, m0_1, m0_2)
def f53.F (K : Nat) (x : f53.Ty1) : Option (f53.Ty0) := f53.T K x.1 x.2.1 x.2.2
def f53.av (_x : f53.Ty1) : List VV := [.ptr 0 0]
def f53.bl (x : f53.Ty1) : List (Nat × Blk) := [(0, ([.int .u64 x.1, .int .i64 x.2.1, .ints .u8 32 x.2.2], 74, .norm))]
def f53.inA : VS → Option (f53.Ty1)
  | ⟨[(0, .ptr 0 0)], [(0, ([.int .u64 m0_0, .int .i64 m0_1, .ints .u8 32 m0_2], 74, .norm))], 1⟩ => some (m0_0, m0_1, m0_2)
  | _ => none
def f53.o0 (y : f53.Ty0) : VS := ⟨[(0, .bool y.1)], [(0, ([.int .u64 y.2.1, .int .i64 y.2.2.1, .ints .u8 32 y.2.2.2], 74, .norm))], 1⟩
def f53.inR : VS → Option (f53.Ty0)
  | ⟨[(0, .bool y)], [(0, ([.int .u64 z0_0, .int .i64 z0_1, .ints .u8 32 z0_2], 74, .norm))], 1⟩ => some (y, z0_0, z0_1, z0_2)
  | _ => none
noncomputable def f53.E (K : Nat) : Entry := genE 1 f53.inA (f53.F K) (dv1 f53.o0)
theorem f53.ok (K : Nat) : EntryOK Try.prog 53 (f53.E K) := gen_ok mix tys_ok (tab_ok ( tab_nil)) Try.func53 (c := bodyOf Try.f53) (by kernel_rfl) (by kernel_rfl) (loops_none (lp := lpNone) (by kernel_rfl)) (av := f53.av) (bl := f53.bl) (inR := f53.inR) (out := f53.o0) (fuel := 400)
  (by intro s x h; unfold f53.inA at h; split at h <;> simp at h; subst h; rfl) (fun _ => Nat.le_of_ble_eq_true rfl)
  (by intro s y h; unfold f53.inR at h; split at h <;> simp at h <;> subst h <;> rfl) (fun _ _ _ => rfl) (fun _ => by kernel_rfl)
end Go.Proofs

namespace Go.Proofs
open Go.VM
abbrev f54.Ty0 := List Int × Int × Int × List Int
abbrev f54.Ty1 := Int × Int × List Int
def f54.T (K : Nat) (m0_0 : Int) (m0_1 : Int) (m0_2 : List Int) : Option (f54.Ty0) :=
  (f41.F K (0, m0_0, 8, 0, [])).bind fun y2 =>
  bif ((Nat.ble (0 + y2.1) y2.2.2.2.2.1 && (Nat.ble y2.1 y2.2.1)) && true) then
    (f22v1.F K (32, 32, (subI m0_2 0 32), 4, y2.1, 4, [100, 114, 97, 119], y2.1, (subI y2.2.2.2.2.2 0 y2.1))).bind fun y3 =>
    some (y3.1, (IntKind.wrap .u64 (m0_0 + 1)), m0_1, m0_2)
  else
    none
def f54.F (K : Nat) (x : f54.Ty1) : Option (f54.Ty0) := f54.T K x.1 x.2.1 x.2.2
def f54.av (_x : f54.Ty1) : List VV := [.ptr 0 0]
def f54.bl (x : f54.Ty1) : List (Nat × Blk) := [(0, ([.int .u64 x.1, .int .i64 x.2.1, .ints .u8 32 x.2.2], 74, .norm))]
def f54.inA : VS → Option (f54.Ty1)
  | ⟨[(0, .ptr 0 0)], [(0, ([.int .u64 m0_0, .int .i64 m0_1, .ints .u8 32 m0_2], 74, .norm))], 1⟩ => some (m0_0, m0_1, m0_2)
  | _ => none
def f54.o0 (y : f54.Ty0) : VS := ⟨[(0, .agg [.ints .u8 32 y.1])], [(0, ([.int .u64 y.2.1, .int .i64 y.2.2.1, .ints .u8 32 y.2.2.2], 74, .norm))], 1⟩
def f54.inR : VS → Option (f54.Ty0)
  | ⟨[(0, .agg [.ints .u8 32 y])], [(0, ([.int .u64 z0_0, .int .i64 z0_1, .ints .u8 32 z0_2], 74, .norm))], 1⟩ => some (y, z0_0, z0_1, z0_2)
  | _ => none
noncomputable def f54.E (K : Nat) : Entry := genE 1 f54.inA (f54.F K) (dv1 f54.o0)
theorem f54.ok (K : Nat) : EntryOK Try.prog 54 (f54.E K) := gen_ok mix tys_ok (sp := tabSp [(41, (viewE [(0, .u8)] (f41.E K))), (22, (rowsE 1 .u8 (viewE [(0, .u8)] (f22v1.E K))))]) (tab_ok ((tab_cons (view_ok (f41.ok K)) (tab_cons (rows_ok (view_ok (f22v1.ok K))) tab_nil)))) Try.func54 (c := bodyOf Try.f54) (by kernel_rfl) (by kernel_rfl) (loops_none (lp := lpNone) (by kernel_rfl)) (av := f54.av) (bl := f54.bl) (inR := f54.inR) (out := f54.o0) (fuel := 400)
  (by intro s x h; unfold f54.inA at h; split at h <;> simp at h; subst h; rfl) (fun _ => Nat.le_of_ble_eq_true rfl)
  (by intro s y h; unfold f54.inR at h; split at h <;> simp at h <;> subst h <;> rfl) (fun _ _ _ => rfl) (fun _ => by kernel_rfl)
end Go.Proofs

namespace Go.Proofs
open Go.VM
abbrev f50v1.Ty0 := ByteArray × Nat × Nat × Nat × List Int × Nat × List Int
abbrev f50v1.Ty1 := List Int × Nat × Nat × Nat × List Int × Nat × List Int
def f50v1.T (K : Nat) (a0 : ByteArray) (m0_0 : Nat) (m0_1 : Nat) (m2_0 : Nat) (m2_1 : List Int) (m4_0 : Nat) (m4_1 : List Int) : Option (f50v1.Ty1) :=
  (f42.F K ()).bind fun y1 =>
  let v2 := ByteArray.size a0
  bif ((Nat.ble (0 + v2) (ByteArray.size a0) && true) && true) then
    (f69.F K (0, v2, 0, [], v2, (subI (strL a0) 0 v2))).bind fun y4 =>
    (f41.F K (0, 2, 4, 0, [])).bind fun y5 =>
    bif ((Nat.ble (0 + y4.1) y4.2.2.2.2.2.1 && true) && ((Nat.ble (0 + y5.1) y5.2.2.2.2.1 && (Nat.ble y5.1 y5.2.1)) && true)) then
      (f40v2.F K (y1.1, y1.2.1, y1.2.2.1, y4.1, y5.1, y1.2.2.2, y4.1, (subI y4.2.2.2.2.2.2 0 y4.1), y5.1, (subI y5.2.2.2.2.2 0 y5.1))).bind fun y6 =>
      bif ((Nat.ble (0 + m0_0) m2_0 && true) && true) then
        (f69.F K (0, m0_0, 0, [], m0_0, (subI m2_1 0 m0_0))).bind fun y7 =>
        bif ((Nat.ble (0 + y7.1) y7.2.2.2.2.2.1 && true) && true) then
          (f40.F K (y6.1, y6.2.1, y6.2.2.1, y7.1, y6.2.2.2.2.2.2.2.2.2, y7.1, (subI y7.2.2.2.2.2.2 0 y7.1))).bind fun y8 =>
          bif ((Nat.ble (0 + m0_1) m4_0 && true) && true) then
            (f69.F K (0, m0_1, 0, [], m0_1, (subI m4_1 0 m0_1))).bind fun y9 =>
            bif ((Nat.ble (0 + y9.1) y9.2.2.2.2.2.1 && true) && true) then
              (f40.F K (y8.1, y8.2.1, y8.2.2.1, y9.1, y8.2.2.2.2.2.2, y9.1, (subI y9.2.2.2.2.2.2 0 y9.1))).bind fun y10 =>
              (f16v2.F K (y10.1, y10.2.1, y10.2.2.1, y10.2.2.2.2.2.2)).bind fun y11 =>
              some (y11.1, m0_0, m0_1, m2_0, m2_1, m4_0, m4_1)
            else
              none
          else
            none
        else
          none
      else
        none
    else
      none
  else
    none
def f50v1.F (K : Nat) (x : f50v1.Ty0) : Option (f50v1.Ty1) := f50v1.T K x.1 x.2.1 x.2.2.1 x.2.2.2.1 x.2.2.2.2.1 x.2.2.2.2.2.1 x.2.2.2.2.2.2
def f50v1.av (x : f50v1.Ty0) : List VV := [.str x.1, .vw true 0 0 2 1]
def f50v1.bl (x : f50v1.Ty0) : List (Nat × Blk) := [(0, ([.vw true 2 0 x.2.1 3, .vw true 4 0 x.2.2.1 5], 0, .ro)), (2, ([.ints .u8 x.2.2.2.1 x.2.2.2.2.1], 0, .ro)), (4, ([.ints .u8 x.2.2.2.2.2.1 x.2.2.2.2.2.2], 0, .ro))]
def f50v1.inA : VS → Option (f50v1.Ty0)
  | ⟨[(0, .str a0), (1, .vw true 0 0 2 1)], [(0, ([.vw true 2 0 m0_0 3, .vw true 4 0 m0_1 5], 0, .ro)), (2, ([.ints .u8 m2_0 m2_1], 0, .ro)), (4, ([.ints .u8 m4_0 m4_1], 0, .ro))], 6⟩ => some (a0, m0_0, m0_1, m2_0, m2_1, m4_0, m4_1)
  | _ => none
def f50v1.o0 (y : f50v1.Ty1) : VS := ⟨[(0, .agg [.ints .u8 32 y.1])], [(0, ([.vw true 2 0 y.2.1 3, .vw true 4 0 y.2.2.1 5], 0, .ro)), (2, ([.ints .u8 y.2.2.2.1 y.2.2.2.2.1], 0, .ro)), (4, ([.ints .u8 y.2.2.2.2.2.1 y.2.2.2.2.2.2], 0, .ro))], 6⟩
def f50v1.inR : VS → Option (f50v1.Ty1)
  | ⟨[(0, .agg [.ints .u8 32 y])], [(0, ([.vw true 2 0 z0_0 3, .vw true 4 0 z0_1 5], 0, .ro)), (2, ([.ints .u8 z2_0 z2_1], 0, .ro)), (4, ([.ints .u8 z4_0 z4_1], 0, .ro))], 6⟩ => some (y, z0_0, z0_1, z2_0, z2_1, z4_0, z4_1)
  | _ => none
noncomputable def f50v1.E (K : Nat) : Entry := genE 6 f50v1.inA (f50v1.F K) (dv1 f50v1.o0)
theorem f50v1.ok (K : Nat) : EntryOK Try.prog 50 (f50v1.E K) := gen_ok mix tys_ok (sp := tabSp [(42, (f42.E K)), (69, (viewE [(0, .u8), (1, .u8)] (f69.E K))), (41, (viewE [(0, .u8)] (f41.E K))), (40, (orF (fitR 1 .u8 (fitE 8 f40v2.inA)) (rowsE 1 .u8 (f40v2.E K)) (rowsE 1 .u8 (f40.E K)))), (16, (f16v2.E K))]) (tab_ok ((tab_cons (f42.ok K) (tab_cons (view_ok (f69.ok K)) (tab_cons (view_ok (f41.ok K)) (tab_cons (orF_ok (rows_ok (f40v2.ok K)) (rows_ok (f40.ok K))) (tab_cons (f16v2.ok K) tab_nil))))))) Try.func50 (c := bodyOf Try.f50) (by kernel_rfl) (by kernel_rfl) (loops_none (lp := lpNone) (by kernel_rfl)) (av := f50v1.av) (bl := f50v1.bl) (inR := f50v1.inR) (out := f50v1.o0) (fuel := 400)
  (by intro s x h; unfold f50v1.inA at h; split at h <;> simp at h; subst h; rfl) (fun _ => Nat.le_of_ble_eq_true rfl)
  (by intro s y h; unfold f50v1.inR at h; split at h <;> simp at h <;> subst h <;> rfl) (fun _ _ _ => rfl) (fun _ => by kernel_rfl)
end Go.Proofs

namespace Go.Proofs
open Go.VM
abbrev f73.Ty0 := List Int × ByteArray × Nat × Nat × List Int × List Int
abbrev f73.Ty1 := Int × ByteArray × Nat × Nat × List Int
def f73.T (K : Nat) (a0 : Int) (m0 : ByteArray) (m2 : Nat) (m3_0 : Nat) (m3_1 : List Int) : Option (f73.Ty0) :=
  bif ((Nat.ble (0 + m2) m3_0 && true) && true) then
    (f50v1.F K (m0, m2, 1, m2, (subI m3_1 0 m2), 1, [a0])).bind fun y1 =>
    (f74.F K (32, 32, (subI y1.1 0 32))).bind fun y2 =>
    some (y2.1, m0, m2, m3_0, m3_1, [a0])
  else
    none
def f73.F (K : Nat) (x : f73.Ty1) : Option (f73.Ty0) := f73.T K x.1 x.2.1 x.2.2.1 x.2.2.2.1 x.2.2.2.2
def f73.av (x : f73.Ty1) : List VV := [.int .u8 x.1, .ptr 0 0, .ptr 1 0]
def f73.bl (x : f73.Ty1) : List (Nat × Blk) := [(0, ([.str x.2.1], 9, .norm)), (1, ([.sl 2 0 1 2], 93, .norm)), (2, ([.vw true 3 0 x.2.2.1 4, .raw (.slice none 0 0)], 22, .norm)), (3, ([.ints .u8 x.2.2.2.1 x.2.2.2.2], 0, .ro))]
def f73.inA : VS → Option (f73.Ty1)
  | ⟨[(0, .int .u8 a0), (1, .ptr 0 0), (2, .ptr 1 0)], [(0, ([.str m0], 9, .norm)), (1, ([.sl 2 0 1 2], 93, .norm)), (2, ([.vw true 3 0 m2 4, .raw (.slice none 0 0)], 22, .norm)), (3, ([.ints .u8 m3_0 m3_1], 0, .ro))], 5⟩ => some (a0, m0, m2, m3_0, m3_1)
  | _ => none
def f73.o0 (y : f73.Ty0) : VS := ⟨[(0, .agg [.ints .u64 4 y.1])], [(0, ([.str y.2.1], 9, .norm)), (1, ([.sl 2 0 1 2], 93, .norm)), (2, ([.vw true 3 0 y.2.2.1 4, .sl 5 0 1 1], 22, .norm)), (3, ([.ints .u8 y.2.2.2.1 y.2.2.2.2.1], 0, .ro)), (5, ([.ints .u8 1 y.2.2.2.2.2], 5, .norm))], 6⟩
def f73.inR : VS → Option (f73.Ty0)
  | ⟨[(0, .agg [.ints .u64 4 y])], [(0, ([.str z0], 9, .norm)), (1, ([.sl 2 0 1 2], 93, .norm)), (2, ([.vw true 3 0 z2 4, .sl 5 0 1 1], 22, .norm)), (3, ([.ints .u8 z3_0 z3_1], 0, .ro)), (5, ([.ints .u8 1 z5], 5, .norm))], 6⟩ => some (y, z0, z2, z3_0, z3_1, z5)
  | _ => none
noncomputable def f73.E (K : Nat) : Entry := genE 5 f73.inA (f73.F K) (dv1 f73.o0)
theorem f73.ok (K : Nat) : EntryOK Try.prog 73 (f73.E K) := gen_ok mix tys_ok (sp := tabSp [(50, (rowsE 1 .u8 (f50v1.E K))), (74, (viewE [(0, .u8)] (f74.E K)))]) (tab_ok ((tab_cons (rows_ok (f50v1.ok K)) (tab_cons (view_ok (f74.ok K)) tab_nil)))) Try.func73 (c := bodyOf Try.f73) (by kernel_rfl) (by kernel_rfl) (loops_none (lp := lpNone) (by kernel_rfl)) (av := f73.av) (bl := f73.bl) (inR := f73.inR) (out := f73.o0) (fuel := 400)
  (by intro s x h; unfold f73.inA at h; split at h <;> simp at h; subst h; rfl) (fun _ => Nat.le_of_ble_eq_true rfl)
  (by intro s y h; unfold f73.inR at h; split at h <;> simp at h <;> subst h <;> rfl) (fun _ _ _ => rfl) (fun _ => by kernel_rfl)
end Go.Proofs

namespace Go.Proofs
open Go.VM
abbrev f73v1.Ty0 := List Int × ByteArray × Nat × Nat × List Int × List Int × List Int
abbrev f73v1.Ty1 := Int × ByteArray × Nat × Nat × List Int × List Int
def f73v1.T (K : Nat) (a0 : Int) (m0 : ByteArray) (m2 : Nat) (m3_0 : Nat) (m3_1 : List Int) (m5 : List Int) : Option (f73v1.Ty0) :=
  bif ((Nat.ble (0 + m2) m3_0 && true) && true) then
    (f50v1.F K (m0, m2, 1, m2, (subI m3_1 0 m2), 1, [a0])).bind fun y1 =>
    (f74.F K (32, 32, (subI y1.1 0 32))).bind fun y2 =>
    some (y2.1, m0, m2, m3_0, m3_1, m5, [a0])
  else
    none
def f73v1.F (K : Nat) (x : f73v1.Ty1) : Option (f73v1.Ty0) := f73v1.T K x.1 x.2.1 x.2.2.1 x.2.2.2.1 x.2.2.2.2.1 x.2.2.2.2.2
def f73v1.av (x : f73v1.Ty1) : List VV := [.int .u8 x.1, .ptr 0 0, .ptr 1 0]
def f73v1.bl (x : f73v1.Ty1) : List (Nat × Blk) := [(0, ([.str x.2.1], 9, .norm)), (1, ([.sl 2 0 1 2], 93, .norm)), (2, ([.vw true 3 0 x.2.2.1 4, .sl 5 0 1 1], 22, .norm)), (3, ([.ints .u8 x.2.2.2.1 x.2.2.2.2.1], 0, .ro)), (5, ([.ints .u8 1 x.2.2.2.2.2], 5, .norm))]
def f73v1.inA : VS → Option (f73v1.Ty1)
  | ⟨[(0, .int .u8 a0), (1, .ptr 0 0), (2, .ptr 1 0)], [(0, ([.str m0], 9, .norm)), (1, ([.sl 2 0 1 2], 93, .norm)), (2, ([.vw true 3 0 m2 4, .sl 5 0 1 1], 22, .norm)), (3, ([.ints .u8 m3_0 m3_1], 0, .ro)), (5, ([.ints .u8 1 m5], 5, .norm))], 6⟩ => some (a0, m0, m2, m3_0, m3_1, m5)
  | _ => none
def f73v1.o0 (y : f73v1.Ty0) : VS := ⟨[(0, .agg [.ints .u64 4 y.1])], [(0, ([.str y.2.1], 9, .norm)), (1, ([.sl 2 0 1 2], 93, .norm)), (2, ([.vw true 3 0 y.2.2.1 4, .sl 6 0 1 1], 22, .norm)), (3, ([.ints .u8 y.2.2.2.1 y.2.2.2.2.1], 0, .ro)), (5, ([.ints .u8 1 y.2.2.2.2.2.1], 5, .norm)), (6, ([.ints .u8 1 y.2.2.2.2.2.2], 5, .norm))], 7⟩
def f73v1.inR : VS → Option (f73v1.Ty0)
  | ⟨[(0, .agg [.ints .u64 4 y])], [(0, ([.str z0], 9, .norm)), (1, ([.sl 2 0 1 2], 93, .norm)), (2, ([.vw true 3 0 z2 4, .sl 6 0 1 1], 22, .norm)), (3, ([.ints .u8 z3_0 z3_1], 0, .ro)), (5, ([.ints .u8 1 z5], 5, .norm)), (6, ([.ints .u8 1 z6], 5, .norm))], 7⟩ => some (y, z0, z2, z3_0, z3_1, z5, z6)
  | _ => none
noncomputable def f73v1.E (K : Nat) : Entry := genE 6 f73v1.inA (f73v1.F K) (dv1 f73v1.o0)
theorem f73v1.ok (K : Nat) : EntryOK Try.prog 73 (f73v1.E K) := gen_ok mix tys_ok (sp := tabSp [(50, (rowsE 1 .u8 (f50v1.E K))), (74, (viewE [(0, .u8)] (f74.E K)))]) (tab_ok ((tab_cons (rows_ok (f50v1.ok K)) (tab_cons (view_ok (f74.ok K)) tab_nil)))) Try.func73 (c := bodyOf Try.f73) (by kernel_rfl) (by kernel_rfl) (loops_none (lp := lpNone) (by kernel_rfl)) (av := f73v1.av) (bl := f73v1.bl) (inR := f73v1.inR) (out := f73v1.o0) (fuel := 400)
  (by intro s x h; unfold f73v1.inA at h; split at h <;> simp at h; subst h; rfl) (fun _ => Nat.le_of_ble_eq_true rfl)
  (by intro s y h; unfold f73v1.inR at h; split at h <;> simp at h <;> subst h <;> rfl) (fun _ _ _ => rfl) (fun _ => by kernel_rfl)
end Go.Proofs

namespace Go.Proofs
open Go.VM
abbrev f56.Ty0 := List Int × ByteArray × Nat × Nat × List Int
abbrev f56.Ty1 := List Int × Int × Nat × Nat × List Int
def f56.T (K : Nat) (a0 : List Int) (a1 : ByteArray) (m0 : Nat) (m2_0 : Nat) (m2_1 : List Int) : Option (f56.Ty1) :=
  (f73.F K (1, a1, m0, m2_0, m2_1)).bind fun y1 =>
  (f73v1.F K (0, y1.2.1, y1.2.2.1, m2_0, m2_1, y1.2.2.2.2.2)).bind fun y2 =>
  (f75.F K (y1.1, y2.1, a0)).bind fun y3 =>
  some (y3.1, y3.2, m0, m2_0, m2_1)
def f56.F (K : Nat) (x : f56.Ty0) : Option (f56.Ty1) := f56.T K x.1 x.2.1 x.2.2.1 x.2.2.2.1 x.2.2.2.2
def f56.av (x : f56.Ty0) : List VV := [.agg [.ints .u64 4 x.1], .str x.2.1, .vw true 0 0 1 1]
def f56.bl (x : f56.Ty0) : List (Nat × Blk) := [(0, ([.vw true 2 0 x.2.2.1 3], 0, .ro)), (2, ([.ints .u8 x.2.2.2.1 x.2.2.2.2], 0, .ro))]
def f56.inA : VS → Option (f56.Ty0)
  | ⟨[(0, .agg [.ints .u64 4 a0]), (1, .str a1), (2, .vw true 0 0 1 1)], [(0, ([.vw true 2 0 m0 3], 0, .ro)), (2, ([.ints .u8 m2_0 m2_1], 0, .ro))], 4⟩ => some (a0, a1, m0, m2_0, m2_1)
  | _ => none
def f56.o0 (y : f56.Ty1) : VS := ⟨[(0, .tup [.agg [.ints .u64 4 y.1], .int .i64 y.2.1])], [(0, ([.vw true 2 0 y.2.2.1 3], 0, .ro)), (2, ([.ints .u8 y.2.2.2.1 y.2.2.2.2], 0, .ro))], 4⟩
def f56.inR : VS → Option (f56.Ty1)
  | ⟨[(0, .tup [.agg [.ints .u64 4 y_0], .int .i64 y_1])], [(0, ([.vw true 2 0 z0 3], 0, .ro)), (2, ([.ints .u8 z2_0 z2_1], 0, .ro))], 4⟩ => some (y_0, y_1, z0, z2_0, z2_1)
  | _ => none
noncomputable def f56.E (K : Nat) : Entry := genE 4 f56.inA (f56.F K) (dv1 f56.o0)
theorem f56.ok (K : Nat) : EntryOK Try.prog 56 (f56.E K) := gen_ok mix tys_ok (sp := tabSp [(73, (orF (fitE 5 f73.inA) (f73.E K) (f73v1.E K))), (75, (f75.E K))]) (tab_ok ((tab_cons (orF_ok (f73.ok K) (f73v1.ok K)) (tab_cons (f75.ok K) tab_nil)))) Try.func56 (c := bodyOf Try.f56) (by kernel_rfl) (by kernel_rfl) (loops_none (lp := lpNone) (by kernel_rfl)) (av := f56.av) (bl := f56.bl) (inR := f56.inR) (out := f56.o0) (fuel := 400)
  (by intro s x h; unfold f56.inA at h; split at h <;> simp at h; subst h; rfl) (fun _ => Nat.le_of_ble_eq_true rfl)
  (by intro s y h; unfold f56.inR at h; split at h <;> simp at h <;> subst h <;> rfl) (fun _ _ _ => rfl) (fun _ => by kernel_rfl)
end Go.Proofs

namespace Go.Proofs
open Go.VM
abbrev f33v1.Ty0 := List Int × List Int × List Int × Int × Int × List Int
abbrev f33v1.Ty1 := List Int × Int × Int × Int × List Int
def f33v1.k0 : ByteArray := ByteArray.mk #[101, 120, 112, 111, 110, 101, 110, 116]
def f33v1.T (K : Nat) (_a1_0 : List Int) (a1_1 : List Int) (_a1_2 : List Int) (m0_0 : Int) (m0_1 : Int) (m0_2 : List Int) : Option (f33v1.Ty1) :=
  (f53.F K (m0_0, m0_1, m0_2)).bind fun y1 =>
  bif !y1.1 then
    some ([0, 0, 0, 0], 2, y1.2.1, y1.2.2.1, y1.2.2.2)
  else
    (f39.F K 3).bind fun y2 =>
    (f38.F K (a1_1, y2)).bind fun y3 =>
    bif (decide (y3 < 0)) then
      some ([0, 0, 0, 0], 1, y1.2.1, y1.2.2.1, y1.2.2.2)
    else
      (f54.F K (y1.2.1, y1.2.2.1, y1.2.2.2)).bind fun y5 =>
      (f39.F K 1).bind fun y6 =>
      (f55.F K (a1_1, y6)).bind fun y7 =>
      (f56.F K (y7.1, f33v1.k0, 32, 32, (subI y5.1 0 32))).bind fun y8 =>
      (f39.F K 1).bind fun y9 =>
      (f57.F K (y8.1, y9)).bind fun y10 =>
      some (y10.1, 0, y5.2.1, y5.2.2.1, y5.2.2.2)
def f33v1.F (K : Nat) (x : f33v1.Ty0) : Option (f33v1.Ty1) := f33v1.T K x.1 x.2.1 x.2.2.1 x.2.2.2.1 x.2.2.2.2.1 x.2.2.2.2.2
def f33v1.av (x : f33v1.Ty0) : List VV := [.ptr 0 0, .agg [.ints .u64 4 x.1, .ints .u64 4 x.2.1, .ints .u64 4 x.2.2.1]]
def f33v1.bl (x : f33v1.Ty0) : List (Nat × Blk) := [(0, ([.int .u64 x.2.2.2.1, .int .i64 x.2.2.2.2.1, .ints .u8 32 x.2.2.2.2.2], 74, .norm))]
def f33v1.inA : VS → Option (f33v1.Ty0)
  | ⟨[(0, .ptr 0 0), (1, .agg [.ints .u64 4 a1_0, .ints .u64 4 a1_1, .ints .u64 4 a1_2])], [(0, ([.int .u64 m0_0, .int .i64 m0_1, .ints .u8 32 m0_2], 74, .norm))], 1⟩ => some (a1_0, a1_1, a1_2, m0_0, m0_1, m0_2)
  | _ => none
def f33v1.o0 (y : f33v1.Ty1) : VS := ⟨[(0, .tup [.agg [.ints .u64 4 y.1], .int .i64 y.2.1])], [(0, ([.int .u64 y.2.2.1, .int .i64 y.2.2.2.1, .ints .u8 32 y.2.2.2.2], 74, .norm))], 1⟩
def f33v1.inR : VS → Option (f33v1.Ty1)
  | ⟨[(0, .tup [.agg [.ints .u64 4 y_0], .int .i64 y_1])], [(0, ([.int .u64 z0_0, .int .i64 z0_1, .ints .u8 32 z0_2], 74, .norm))], 1⟩ => some (y_0, y_1, z0_0, z0_1, z0_2)
  | _ => none
noncomputable def f33v1.E (K : Nat) : Entry := genE 1 f33v1.inA (f33v1.F K) (dv1 f33v1.o0)
theorem f33v1.ok (K : Nat) : EntryOK Try.prog 33 (f33v1.E K) := gen_ok mix tys_ok (sp := tabSp [(53, (f53.E K)), (39, (f39.E K)), (38, (f38.E K)), (54, (f54.E K)), (55, (f55.E K)), (56, (rowsE 2 .u8 (f56.E K))), (57, (f57.E K))]) (tab_ok ((tab_cons (f53.ok K) (tab_cons (f39.ok K) (tab_cons (f38.ok K) (tab_cons (f54.ok K) (tab_cons (f55.ok K) (tab_cons (rows_ok (f56.ok K)) (tab_cons (f57.ok K) tab_nil))))))))) Try.func33 (c := bodyOf Try.f33) (by kernel_rfl) (by kernel_rfl) (loops_none (lp := lpNone) (by kernel_rfl)) (av := f33v1.av) (bl := f33v1.bl) (inR := f33v1.inR) (out := f33v1.o0) (fuel := 400)
  (by intro s x h; unfold f33v1.inA at h; split at h <;> simp at h; subst h; rfl) (fun _ => Nat.le_of_ble_eq_true rfl)
  (by intro s y h; unfold f33v1.inR at h; split at h <;> simp at h <;> subst h <;> rfl) (fun _ _ _ => rfl) (fun _ => by kernel_rfl)
end Go.Proofs

namespace Go.Proofs
open Go.VM
abbrev f58v1.Ty0 := List Int × Int × Int × List Int
abbrev f58v1.Ty1 := Int × Int × List Int
def f58v1.T (K : Nat) (m0_0 : Int) (m0_1 : Int) (m0_2 : List Int) : Option (f58v1.Ty0) :=
  (f53.F K (m0_0, m0_1, m0_2)).bind fun y1 =>
  bif !y1.1 then
    some ([0, 0, 0, 0, 0, 0, 0, 0, 0, 0, 0, 0, 0, 0, 0, 0, 0, 0, 0, 0, 0, 0, 0, 0, 0, 0, 0, 0, 0, 0, 0, 0], y1.2.1, y1.2.2.1, y1.2.2.2)
  else
    (f54.F K (y1.2.1, y1.2.2.1, y1.2.2.2)).bind fun y2 =>
    some (y2.1, y2.2.1, y2.2.2.1, y2.2.2.2)
def f58v1.F (K : Nat) (x : f58v1.Ty1) : Option (f58v1.Ty0) := f58v1.T K x.1 x.2.1 x.2.2
def f58v1.av (_x : f58v1.Ty1) : List VV := [.ptr 0 0, .fn 54 []]
def f58v1.bl (x : f58v1.Ty1) : List (Nat × Blk) := [(0, ([.int .u64 x.1, .int .i64 x.2.1, .ints .u8 32 x.2.2], 74, .norm))]
def f58v1.inA : VS → Option (f58v1.Ty1)
  | ⟨[(0, .ptr 0 0), (1, .fn 54 [])], [(0, ([.int .u64 m0_0, .int .i64 m0_1, .ints .u8 32 m0_2], 74, .norm))], 1⟩ => some (m0_0, m0_1, m0_2)
  | _ => none
def f58v1.o0 (y : f58v1.Ty0) : VS := ⟨[(0, .agg [.ints .u8 32 y.1])], [(0, ([.int .u64 y.2.1, .int .i64 y.2.2.1, .ints .u8 32 y.2.2.2], 74, .norm))], 1⟩
def f58v1.inR : VS → Option (f58v1.Ty0)
  | ⟨[(0, .agg [.ints .u8 32 y])], [(0, ([.int .u64 z0_0, .int .i64 z0_1, .ints .u8 32 z0_2], 74, .norm))], 1⟩ => some (y, z0_0, z0_1, z0_2)
  | _ => none
noncomputable def f58v1.E (K : Nat) : Entry := genE 1 f58v1.inA (f58v1.F K) (dv1 f58v1.o0)
theorem f58v1.ok (K : Nat) : EntryOK Try.prog 58 (f58v1.E K) := gen_ok mix tys_ok (tab_ok ((tab_cons (f53.ok K) (tab_cons (f54.ok K) tab_nil)))) Try.func58 (c := bodyOf Try.f58) (by kernel_rfl) (by kernel_rfl) (loops_none (lp := lpNone) (by kernel_rfl)) (av := f58v1.av) (bl := f58v1.bl) (inR := f58v1.inR) (out := f58v1.o0) (fuel := 400)
  (by intro s x h; unfold f58v1.inA at h; split at h <;> simp at h; subst h; rfl) (fun _ => Nat.le_of_ble_eq_true rfl)
  (by intro s y h; unfold f58v1.inR at h; split at h <;> simp at h <;> subst h <;> rfl) (fun _ _ _ => rfl) (fun _ => by kernel_rfl)
end Go.Proofs

namespace Go.Proofs
open Go.VM
abbrev f34v1.Ty0 := List Int × Int × Int × List Int
abbrev f34v1.Ty1 := Int × Int × List Int
def f34v1.T (K : Nat) (m0_0 : Int) (m0_1 : Int) (m0_2 : List Int) : Option (f34v1.Ty0) :=
  (f58v1.F K (m0_0, m0_1, m0_2)).bind fun y1 =>
  some (y1.1, y1.2.1, y1.2.2.1, y1.2.2.2)
def f34v1.F (K : Nat) (x : f34v1.Ty1) : Option (f34v1.Ty0) := f34v1.T K x.1 x.2.1 x.2.2
def f34v1.av (_x : f34v1.Ty1) : List VV := [.ptr 0 0]
def f34v1.bl (x : f34v1.Ty1) : List (Nat × Blk) := [(0, ([.int .u64 x.1, .int .i64 x.2.1, .ints .u8 32 x.2.2], 74, .norm))]
def f34v1.inA : VS → Option (f34v1.Ty1)
  | ⟨[(0, .ptr 0 0)], [(0, ([.int .u64 m0_0, .int .i64 m0_1, .ints .u8 32 m0_2], 74, .norm))], 1⟩ => some (m0_0, m0_1, m0_2)
  | _ => none
def f34v1.o0 (y : f34v1.Ty0) : VS := ⟨[(0, .agg [.ints .u8 32 y.1])], [(0, ([.int .u64 y.2.1, .int .i64 y.2.2.1, .ints .u8 32 y.2.2.2], 74, .norm))], 1⟩
def f34v1.inR : VS → Option (f34v1.Ty0)
  | ⟨[(0, .agg [.ints .u8 32 y])], [(0, ([.int .u64 z0_0, .int .i64 z0_1, .ints .u8 32 z0_2], 74, .norm))], 1⟩ => some (y, z0_0, z0_1, z0_2)
  | _ => none
noncomputable def f34v1.E (K : Nat) : Entry := genE 1 f34v1.inA (f34v1.F K) (dv1 f34v1.o0)
theorem f34v1.ok (K : Nat) : EntryOK Try.prog 34 (f34v1.E K) := gen_ok mix tys_ok (tab_ok ((tab_cons (f58v1.ok K) tab_nil))) Try.func34 (c := bodyOf Try.f34) (by kernel_rfl) (by kernel_rfl) (loops_none (lp := lpNone) (by kernel_rfl)) (av := f34v1.av) (bl := f34v1.bl) (inR := f34v1.inR) (out := f34v1.o0) (fuel := 400)
  (by intro s x h; unfold f34v1.inA at h; split at h <;> simp at h; subst h; rfl) (fun _ => Nat.le_of_ble_eq_true rfl)
  (by intro s y h; unfold f34v1.inR at h; split at h <;> simp at h <;> subst h <;> rfl) (fun _ _ _ => rfl) (fun _ => by kernel_rfl)
end Go.Proofs

namespace Go.Proofs
open Go.VM
abbrev f60.Ty0 := Int × Int × Int × List Int
abbrev f60.Ty1 := Int × Int × List Int
def f60.T (_K : Nat) (m0_0 : Int) (m0_1 : Int) (m0_2 : List Int) : Option (f60.Ty0) :=
  some (m0_0, m0_0, m0_1, m0_2)
def f60.F (K : Nat) (x : f60.Ty1) : Option (f60.Ty0) := f60.T K x.1 x.2.1 x.2.2
def f60.av (_x : f60.Ty1) : List VV := [.ptr 0 0]
def f60.bl (x : f60.Ty1) : List (Nat × Blk) := [(0, ([.int .u64 x.1, .int .i64 x.2.1, .ints .u8 32 x.2.2], 74, .norm))]
def f60.inA : VS → Option (f60.Ty1)
  | ⟨[(0, .ptr 0 0)], [(0, ([.int .u64 m0_0, .int .i64 m0_1, .ints .u8 32 m0_2], 74, .norm))], 1⟩ => some (m0_0, m0_1, m0_2)
  | _ => none
def f60.o0 (y : f60.Ty0) : VS := ⟨[(0, .int .u64 y.1)], [(0, ([.int .u64 y.2.1, .int .i64 y.2.2.1, .ints .u8 32 y.2.2.2], 74, .norm))], 1⟩
def f60.inR : VS → Option (f60.Ty0)
  | ⟨[(0, .int .u64 y)], [(0, ([.int .u64 z0_0, .int .i64 z0_1, .ints .u8 32 z0_2], 74, .norm))], 1⟩ => some (y, z0_0, z0_1, z0_2)
  | _ => none
noncomputable def f60.E (K : Nat) : Entry := genE 1 f60.inA (f60.F K) (dv1 f60.o0)
theorem f60.ok (K : Nat) : EntryOK Try.prog 60 (f60.E K) := gen_ok mix tys_ok (tab_ok ( tab_nil)) Try.func60 (c := bodyOf Try.f60) (by kernel_rfl) (by kernel_rfl) (loops_none (lp := lpNone) (by kernel_rfl)) (av := f60.av) (bl := f60.bl) (inR := f60.inR) (out := f60.o0) (fuel := 400)
  (by intro s x h; unfold f60.inA at h; split at h <;> simp at h; subst h; rfl) (fun _ => Nat.le_of_ble_eq_true rfl)
  (by intro s y h; unfold f60.inR at h; split at h <;> simp at h <;> subst h <;> rfl) (fun _ _ _ => rfl) (fun _ => by kernel_rfl)
end Go.Proofs

namespace Go.Proofs
open Go.VM
abbrev f59v1.Ty0 := Int × Int × Int × List Int
abbrev f59v1.Ty1 := Int × Int × List Int
def f59v1.T (K : Nat) (m0_0 : Int) (m0_1 : Int) (m0_2 : List Int) : Option (f59v1.Ty0) :=
  (f53.F K (m0_0, m0_1, m0_2)).bind fun y1 =>
  bif !y1.1 then
    some (0, y1.2.1, y1.2.2.1, y1.2.2.2)
  else
    (f60.F K (y1.2.1, y1.2.2.1, y1.2.2.2)).bind fun y2 =>
    some (y2.1, y2.2.1, y2.2.2.1, y2.2.2.2)
def f59v1.F (K : Nat) (x : f59v1.Ty1) : Option (f59v1.Ty0) := f59v1.T K x.1 x.2.1 x.2.2
def f59v1.av (_x : f59v1.Ty1) : List VV := [.ptr 0 0, .fn 60 []]
def f59v1.bl (x : f59v1.Ty1) : List (Nat × Blk) := [(0, ([.int .u64 x.1, .int .i64 x.2.1, .ints .u8 32 x.2.2], 74, .norm))]
def f59v1.inA : VS → Option (f59v1.Ty1)
  | ⟨[(0, .ptr 0 0), (1, .fn 60 [])], [(0, ([.int .u64 m0_0, .int .i64 m0_1, .ints .u8 32 m0_2], 74, .norm))], 1⟩ => some (m0_0, m0_1, m0_2)
  | _ => none
def f59v1.o0 (y : f59v1.Ty0) : VS := ⟨[(0, .int .u64 y.1)], [(0, ([.int .u64 y.2.1, .int .i64 y.2.2.1, .ints .u8 32 y.2.2.2], 74, .norm))], 1⟩
def f59v1.inR : VS → Option (f59v1.Ty0)
  | ⟨[(0, .int .u64 y)], [(0, ([.int .u64 z0_0, .int .i64 z0_1, .ints .u8 32 z0_2], 74, .norm))], 1⟩ => some (y, z0_0, z0_1, z0_2)
  | _ => none
noncomputable def f59v1.E (K : Nat) : Entry := genE 1 f59v1.inA (f59v1.F K) (dv1 f59v1.o0)
theorem f59v1.ok (K : Nat) : EntryOK Try.prog 59 (f59v1.E K) := gen_ok mix tys_ok (tab_ok ((tab_cons (f53.ok K) (tab_cons (f60.ok K) tab_nil)))) Try.func59 (c := bodyOf Try.f59) (by kernel_rfl) (by kernel_rfl) (loops_none (lp := lpNone) (by kernel_rfl)) (av := f59v1.av) (bl := f59v1.bl) (inR := f59v1.inR) (out := f59v1.o0) (fuel := 400)
  (by intro s x h; unfold f59v1.inA at h; split at h <;> simp at h; subst h; rfl) (fun _ => Nat.le_of_ble_eq_true rfl)
  (by intro s y h; unfold f59v1.inR at h; split at h <;> simp at h <;> subst h <;> rfl) (fun _ _ _ => rfl) (fun _ => by kernel_rfl)
end Go.Proofs

namespace Go.Proofs
open Go.VM
abbrev f35v1.Ty0 := Int × Int × Int × List Int
abbrev f35v1.Ty1 := Int × Int × List Int
def f35v1.T (K : Nat) (m0_0 : Int) (m0_1 : Int) (m0_2 : List Int) : Option (f35v1.Ty0) :=
  (f59v1.F K (m0_0, m0_1, m0_2)).bind fun y1 =>
  some (y1.1, y1.2.1, y1.2.2.1, y1.2.2.2)
def f35v1.F (K : Nat) (x : f35v1.Ty1) : Option (f35v1.Ty0) := f35v1.T K x.1 x.2.1 x.2.2
def f35v1.av (_x : f35v1.Ty1) : List VV := [.ptr 0 0]
def f35v1.bl (x : f35v1.Ty1) : List (Nat × Blk) := [(0, ([.int .u64 x.1, .int .i64 x.2.1, .ints .u8 32 x.2.2], 74, .norm))]
def f35v1.inA : VS → Option (f35v1.Ty1)
  | ⟨[(0, .ptr 0 0)], [(0, ([.int .u64 m0_0, .int .i64 m0_1, .ints .u8 32 m0_2], 74, .norm))], 1⟩ => some (m0_0, m0_1, m0_2)
  | _ => none
def f35v1.o0 (y : f35v1.Ty0) : VS := ⟨[(0, .int .u64 y.1)], [(0, ([.int .u64 y.2.1, .int .i64 y.2.2.1, .ints .u8 32 y.2.2.2], 74, .norm))], 1⟩
def f35v1.inR : VS → Option (f35v1.Ty0)
  | ⟨[(0, .int .u64 y)], [(0, ([.int .u64 z0_0, .int .i64 z0_1, .ints .u8 32 z0_2], 74, .norm))], 1⟩ => some (y, z0_0, z0_1, z0_2)
  | _ => none
noncomputable def f35v1.E (K : Nat) : Entry := genE 1 f35v1.inA (f35v1.F K) (dv1 f35v1.o0)
theorem f35v1.ok (K : Nat) : EntryOK Try.prog 35 (f35v1.E K) := gen_ok mix tys_ok (tab_ok ((tab_cons (f59v1.ok K) tab_nil))) Try.func35 (c := bodyOf Try.f35) (by kernel_rfl) (by kernel_rfl) (loops_none (lp := lpNone) (by kernel_rfl)) (av := f35v1.av) (bl := f35v1.bl) (inR := f35v1.inR) (out := f35v1.o0) (fuel := 400)
  (by intro s x h; unfold f35v1.inA at h; split at h <;> simp at h; subst h; rfl) (fun _ => Nat.le_of_ble_eq_true rfl)
  (by intro s y h; unfold f35v1.inR at h; split at h <;> simp at h <;> subst h <;> rfl) (fun _ _ _ => rfl) (fun _ => by kernel_rfl)
end Go.Proofs

namespace Go.Proofs
open Go.VM
abbrev f37.Ty0 := Int × Int × List Int
def f37.T (_K : Nat) (a0 : List Int) : Option (f37.Ty0) :=
  some (0, 1, a0)
def f37.F (K : Nat) (x : List Int) : Option (f37.Ty0) := f37.T K x
def f37.av (x : List Int) : List VV := [.agg [.ints .u8 32 x]]
def f37.bl (_x : List Int) : List (Nat × Blk) := []
def f37.inA : VS → Option (List Int)
  | ⟨[(0, .agg [.ints .u8 32 a0])], [], 0⟩ => some a0
  | _ => none
def f37.o0 (y : f37.Ty0) : VS := ⟨[(0, .ptr 0 0)], [(0, ([.int .u64 y.1, .int .i64 y.2.1, .ints .u8 32 y.2.2], 74, .norm))], 1⟩
def f37.inR : VS → Option (f37.Ty0)
  | ⟨[(0, .ptr 0 0)], [(0, ([.int .u64 z0_0, .int .i64 z0_1, .ints .u8 32 z0_2], 74, .norm))], 1⟩ => some (z0_0, z0_1, z0_2)
  | _ => none
noncomputable def f37.E (K : Nat) : Entry := genE 0 f37.inA (f37.F K) (dv1 f37.o0)
theorem f37.ok (K : Nat) : EntryOK Try.prog 37 (f37.E K) := gen_ok mix tys_ok (tab_ok ( tab_nil)) Try.func37 (c := bodyOf Try.f37) (by kernel_rfl) (by kernel_rfl) (loops_none (lp := lpNone) (by kernel_rfl)) (av := f37.av) (bl := f37.bl) (inR := f37.inR) (out := f37.o0) (fuel := 400)
  (by intro s x h; unfold f37.inA at h; split at h <;> simp at h; subst h; rfl) (fun _ => Nat.le_of_ble_eq_true rfl)
  (by intro s y h; unfold f37.inR at h; split at h <;> simp at h <;> subst h <;> rfl) (fun _ _ _ => rfl) (fun _ => by kernel_rfl)
end Go.Proofs

namespace Go.Proofs
open Go.VM
def f36.T (K : Nat)  : Option (Bool) :=
  (f37.F K [0, 0, 0, 0, 0, 0, 0, 0, 0, 0, 0, 0, 0, 0, 0, 0, 0, 0, 0, 0, 0, 0, 0, 0, 0, 0, 0, 0, 0, 0, 0, 0]).bind fun y1 =>
  (f35v1.F K (y1.1, y1.2.1, y1.2.2)).bind fun y2 =>
  (f34v1.F K (y2.2.1, y2.2.2.1, y2.2.2.2)).bind fun y3 =>
  (f35v1.F K (y3.2.1, y3.2.2.1, y3.2.2.2)).bind fun y4 =>
  (f33v1.F K ([0, 0, 0, 0], [2, 0, 0, 0], [0, 0, 0, 0], y4.2.1, y4.2.2.1, y4.2.2.2)).bind fun y5 =>
  (f35v1.F K (y5.2.2.1, y5.2.2.2.1, y5.2.2.2.2)).bind fun y6 =>
  (f33v1.F K ([0, 0, 0, 0], [3, 0, 0, 0], [0, 0, 0, 0], y6.2.1, y6.2.2.1, y6.2.2.2)).bind fun y7 =>
  (f33.F K ([0, 0, 0, 0], [0, 0, 0, 0], [0, 0, 0, 0])).bind fun y8 =>
  bif (y2.1 == 0) then
    bif (y4.1 == 1) then
      bif (y5.2.1 == 1) then
        bif (y6.1 == 1) then
          bif (y7.2.1 == 0) then
            (f39.F K 1).bind fun y11 =>
            bif (eqL 4 y7.1 y11 && true) then
              bif (!(eqL 32 y3.1 [0, 0, 0, 0, 0, 0, 0, 0, 0, 0, 0, 0, 0, 0, 0, 0, 0, 0, 0, 0, 0, 0, 0, 0, 0, 0, 0, 0, 0, 0, 0, 0] && true)) then
                bif (y8.2 == 2) then
                  (f35.F K ()).bind fun y14 =>
                  some (y14 == 0)
                else
                  some false
              else
                some false
            else
              (f39.F K 2).bind fun y15 =>
              bif (eqL 4 y7.1 y15 && true) then
                bif (!(eqL 32 y3.1 [0, 0, 0, 0, 0, 0, 0, 0, 0, 0, 0, 0, 0, 0, 0, 0, 0, 0, 0, 0, 0, 0, 0, 0, 0, 0, 0, 0, 0, 0, 0, 0] && true)) then
                  bif (y8.2 == 2) then
                    (f35.F K ()).bind fun y18 =>
                    some (y18 == 0)
                  else
                    some false
                else
                  some false
              else
                some false
          else
            some false
        else
          some false
      else
        some false
    else
      some false
  else
    some false
def f36.F (K : Nat) (_x : Unit) : Option (Bool) := f36.T K
def f36.av (_x : Unit) : List VV := []
def f36.bl (_x : Unit) : List (Nat × Blk) := []
def f36.inA : VS → Option (Unit)
  | ⟨[], [], 0⟩ => some ()
  | _ => none
def f36.o0 (y : Bool) : VS := ⟨[(0, .bool y)], [], 0⟩
def f36.inR : VS → Option (Bool)
  | ⟨[(0, .bool y)], [], 0⟩ => some y
  | _ => none
noncomputable def f36.E (K : Nat) : Entry := genE 0 f36.inA (f36.F K) (dv1 f36.o0)
theorem f36.ok (K : Nat) : EntryOK Try.prog 36 (f36.E K) := gen_ok mix tys_ok (sp := tabSp [(37, (f37.E K)), (35, (orF (fitE 1 f35v1.inA) (f35v1.E K) (f35.E K))), (34, (f34v1.E K)), (33, (orF (fitE 1 f33v1.inA) (f33v1.E K) (f33.E K))), (39, (f39.E K))]) (tab_ok ((tab_cons (f37.ok K) (tab_cons (orF_ok (f35v1.ok K) (f35.ok K)) (tab_cons (f34v1.ok K) (tab_cons (orF_ok (f33v1.ok K) (f33.ok K)) (tab_cons (f39.ok K) tab_nil))))))) Try.func36 (c := bodyOf Try.f36) (by kernel_rfl) (by kernel_rfl) (loops_none (lp := lpNone) (by kernel_rfl)) (av := f36.av) (bl := f36.bl) (inR := f36.inR) (out := f36.o0) (fuel := 400)
  (by intro s x h; unfold f36.inA at h; split at h <;> simp at h; rfl) (fun _ => Nat.le_of_ble_eq_true rfl)
  (by intro s y h; unfold f36.inR at h; split at h <;> simp at h <;> subst h <;> rfl) (fun _ _ _ => rfl) (fun _ => by kernel_rfl)
end Go.Proofs

namespace Go.Proofs
open Go.VM
abbrev f12.Ty0 := List Int × List Int × List Int
def f12.T (K : Nat) (a0_0 : List Int) (a0_1 : List Int) (a0_2 : List Int) : Option (Bool) :=
  (f33.F K (a0_0, a0_1, a0_2)).bind fun y1 =>
  (f34.F K ()).bind fun y2 =>
  bif (!(eqL 32 y2 [0, 0, 0, 0, 0, 0, 0, 0, 0, 0, 0, 0, 0, 0, 0, 0, 0, 0, 0, 0, 0, 0, 0, 0, 0, 0, 0, 0, 0, 0, 0, 0] && true)) then
    some false
  else
    (f35.F K ()).bind fun y4 =>
    bif (y4 != 0) then
      some false
    else
      bif (!(eqL 4 y1.1 [0, 0, 0, 0] && true)) then
        some false
      else
        bif (y1.2 != 2) then
          some false
        else
          (f33v1.F K (a0_0, a0_1, a0_2, 0, 0, [0, 0, 0, 0, 0, 0, 0, 0, 0, 0, 0, 0, 0, 0, 0, 0, 0, 0, 0, 0, 0, 0, 0, 0, 0, 0, 0, 0, 0, 0, 0, 0])).bind fun y6 =>
          (f34v1.F K (y6.2.2.1, y6.2.2.2.1, y6.2.2.2.2)).bind fun y7 =>
          bif (!(eqL 32 y7.1 [0, 0, 0, 0, 0, 0, 0, 0, 0, 0, 0, 0, 0, 0, 0, 0, 0, 0, 0, 0, 0, 0, 0, 0, 0, 0, 0, 0, 0, 0, 0, 0] && true)) then
            some false
          else
            (f35v1.F K (y7.2.1, y7.2.2.1, y7.2.2.2)).bind fun y9 =>
            bif (y9.1 != 0) then
              some false
            else
              bif (!(eqL 4 y6.1 [0, 0, 0, 0] && true)) then
                some false
              else
                bif (y6.2.1 != 2) then
                  some false
                else
                  (f36.F K ()).bind fun y12 =>
                  some y12
def f12.F (K : Nat) (x : f12.Ty0) : Option (Bool) := f12.T K x.1 x.2.1 x.2.2
def f12.av (x : f12.Ty0) : List VV := [.agg [.ints .u64 4 x.1, .ints .u64 4 x.2.1, .ints .u64 4 x.2.2]]
def f12.bl (_x : f12.Ty0) : List (Nat × Blk) := []
def f12.inA : VS → Option (f12.Ty0)
  | ⟨[(0, .agg [.ints .u64 4 a0_0, .ints .u64 4 a0_1, .ints .u64 4 a0_2])], [], 0⟩ => some (a0_0, a0_1, a0_2)
  | _ => none
def f12.o0 (y : Bool) : VS := ⟨[(0, .bool y)], [], 0⟩
def f12.inR : VS → Option (Bool)
  | ⟨[(0, .bool y)], [], 0⟩ => some y
  | _ => none
noncomputable def f12.E (K : Nat) : Entry := genE 0 f12.inA (f12.F K) (dv1 f12.o0)
theorem f12.ok (K : Nat) : EntryOK Try.prog 12 (f12.E K) := gen_ok mix tys_ok (sp := tabSp [(33, (orF (fitE 0 f33.inA) (f33.E K) (f33v1.E K))), (34, (orF (fitE 0 f34.inA) (f34.E K) (f34v1.E K))), (35, (orF (fitE 0 f35.inA) (f35.E K) (f35v1.E K))), (36, (f36.E K))]) (tab_ok ((tab_cons (orF_ok (f33.ok K) (f33v1.ok K)) (tab_cons (orF_ok (f34.ok K) (f34v1.ok K)) (tab_cons (orF_ok (f35.ok K) (f35v1.ok K)) (tab_cons (f36.ok K) tab_nil)))))) Try.func12 (c := bodyOf Try.f12) (by kernel_rfl) (by kernel_rfl) (loops_none (lp := lpNone) (by kernel_rfl)) (av := f12.av) (bl := f12.bl) (inR := f12.inR) (out := f12.o0) (fuel := 400)
  (by intro s x h; unfold f12.inA at h; split at h <;> simp at h; subst h; rfl) (fun _ => Nat.le_of_ble_eq_true rfl)
  (by intro s y h; unfold f12.inR at h; split at h <;> simp at h <;> subst h <;> rfl) (fun _ _ _ => rfl) (fun _ => by kernel_rfl)
end Go.Proofs

namespace Go.Proofs
open Go.VM
end Go.Proofs

namespace Go.Proofs
open Go.VM
set_option maxRecDepth 1000000 in
theorem f36.holds : f36.F 100000 () = some true := by decide +kernel
def Dr.sum (s : List Int) (n : Nat) : List Int := Sh.mac s ([100, 114, 97, 119] ++ be 8 n)
theorem f12.holds (p q g : List Int) : f12.F 100000 (p, q, g) = some true := by
  simp only [f12.F, f12.T]
  rw [show f33.F 100000 (p, q, g) = some ([0, 0, 0, 0], 2) from rfl, bind_s, show f34.F 100000 () = some [0, 0, 0, 0, 0, 0, 0, 0, 0, 0, 0, 0, 0, 0, 0, 0, 0, 0, 0, 0, 0, 0, 0, 0, 0, 0, 0, 0, 0, 0, 0, 0] from rfl, bind_s]
  rw [show eqL 32 [0, 0, 0, 0, 0, 0, 0, 0, 0, 0, 0, 0, 0, 0, 0, 0, 0, 0, 0, 0, 0, 0, 0, 0, 0, 0, 0, 0, 0, 0, 0, 0] [0, 0, 0, 0, 0, 0, 0, 0, 0, 0, 0, 0, 0, 0, 0, 0, 0, 0, 0, 0, 0, 0, 0, 0, 0, 0, 0, 0, 0, 0, 0, 0] = true by decide +kernel, Bool.and_self, Bool.not_true, cond_f,
    show f35.F 100000 () = some 0 from rfl, bind_s, show ((0 : Int) != 0) = false from rfl, cond_f]
  simp only []
  rw [show eqL 4 [0, 0, 0, 0] [0, 0, 0, 0] = true by decide +kernel, Bool.and_self, Bool.not_true, cond_f, show ((2 : Int) != 2) = false from rfl, cond_f,
    show f33v1.F 100000 (p, q, g, 0, 0, [0, 0, 0, 0, 0, 0, 0, 0, 0, 0, 0, 0, 0, 0, 0, 0, 0, 0, 0, 0, 0, 0, 0, 0, 0, 0, 0, 0, 0, 0, 0, 0]) = some ([0, 0, 0, 0], 2, 0, 0, [0, 0, 0, 0, 0, 0, 0, 0, 0, 0, 0, 0, 0, 0, 0, 0, 0, 0, 0, 0, 0, 0, 0, 0, 0, 0, 0, 0, 0, 0, 0, 0]) from rfl, bind_s]
  simp only []
  rw [show f34v1.F 100000 (0, 0, [0, 0, 0, 0, 0, 0, 0, 0, 0, 0, 0, 0, 0, 0, 0, 0, 0, 0, 0, 0, 0, 0, 0, 0, 0, 0, 0, 0, 0, 0, 0, 0]) = some ([0, 0, 0, 0, 0, 0, 0, 0, 0, 0, 0, 0, 0, 0, 0, 0, 0, 0, 0, 0, 0, 0, 0, 0, 0, 0, 0, 0, 0, 0, 0, 0], 0, 0, [0, 0, 0, 0, 0, 0, 0, 0, 0, 0, 0, 0, 0, 0, 0, 0, 0, 0, 0, 0, 0, 0, 0, 0, 0, 0, 0, 0, 0, 0, 0, 0]) from rfl, bind_s]
  simp only []
  rw [show eqL 32 [0, 0, 0, 0, 0, 0, 0, 0, 0, 0, 0, 0, 0, 0, 0, 0, 0, 0, 0, 0, 0, 0, 0, 0, 0, 0, 0, 0, 0, 0, 0, 0] [0, 0, 0, 0, 0, 0, 0, 0, 0, 0, 0, 0, 0, 0, 0, 0, 0, 0, 0, 0, 0, 0, 0, 0, 0, 0, 0, 0, 0, 0, 0, 0] = true by decide +kernel, Bool.and_self, Bool.not_true, cond_f,
    show f35v1.F 100000 (0, 0, [0, 0, 0, 0, 0, 0, 0, 0, 0, 0, 0, 0, 0, 0, 0, 0, 0, 0, 0, 0, 0, 0, 0, 0, 0, 0, 0, 0, 0, 0, 0, 0]) = some (0, 0, 0, [0, 0, 0, 0, 0, 0, 0, 0, 0, 0, 0, 0, 0, 0, 0, 0, 0, 0, 0, 0, 0, 0, 0, 0, 0, 0, 0, 0, 0, 0, 0, 0]) from rfl, bind_s]
  simp only []
  rw [show ((0 : Int) != 0) = false from rfl, cond_f, show eqL 4 [0, 0, 0, 0] [0, 0, 0, 0] = true by decide +kernel, Bool.and_self, Bool.not_true, cond_f, show ((2 : Int) != 2) = false from rfl, cond_f, f36.holds, bind_s]
end Go.Proofs
