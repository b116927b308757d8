/- Plain laws: lemmas that hold with no condition but those that each states. -/
import Derived.Test.YtmbbkmljmienjaaQ3
import Derived.Test.YtmbbkmljmienjaaQ6
import Derived.Laws.MathBits
namespace Go.Proofs
open Go.VM
def f106.T (_K : Nat) (a0 : Int) (a1 : Int) : Option (Int) :=
  let v2 := bits .and .u64 (IntKind.wrap .u64 a1) 31
  bif decide (0 ≤ v2) then
    let v4 := IntKind.wrap .u64 (32 - v2)
    bif decide (0 ≤ v4) then
      some (bits .or .u32 (shiftI .shl .u32 a0 v2) (shiftI .shr .u32 a0 v4))
    else
      none
  else
    none
def f106.F (K : Nat) (x : Int × Int) : Option (Int) := f106.T K x.1 x.2
def f106.av (x : Int × Int) : List VV := [.int .u32 x.1, .int .i64 x.2]
def f106.bl (_x : Int × Int) : List (Nat × Blk) := []
def f106.inA : VS → Option (Int × Int)
  | ⟨[(0, .int .u32 a0), (1, .int .i64 a1)], [], 0⟩ => some (a0, a1)
  | _ => none
def f106.o0 (y : Int) : VS := ⟨[(0, .int .u32 y)], [], 0⟩
def f106.inR : VS → Option (Int)
  | ⟨[(0, .int .u32 y)], [], 0⟩ => some y
  | _ => none
noncomputable def f106.E (K : Nat) : Entry := genE 0 f106.inA (f106.F K) (dv1 f106.o0)
theorem f106.ok (K : Nat) : EntryOK Try.prog 106 (f106.E K) := gen_ok mix tys_ok (tab_ok ( tab_nil)) Try.func106 (c := bodyOf Try.f106) (by kernel_rfl) (by kernel_rfl) (loops_none (lp := lpNone) (by kernel_rfl)) (av := f106.av) (bl := f106.bl) (inR := f106.inR) (out := f106.o0) (fuel := 400)
  (by intro s x h; unfold f106.inA at h; split at h <;> simp at h; subst h; rfl) (fun _ => Nat.le_of_ble_eq_true rfl)
  (by intro s y h; unfold f106.inR at h; split at h <;> simp at h <;> subst h <;> rfl) (fun _ _ _ => rfl) (fun _ => by kernel_rfl)
end Go.Proofs

namespace Go.Proofs
open Go.VM
abbrev f102.Ty0 := Int × Int × Nat × Int × Int × Nat × List Int
abbrev f102.Ty1 := Int × Nat × Nat × List Int
abbrev f102.Ty2 := Int × Nat × List Int
noncomputable def f102.c : Code := bodyOf Try.f102
def f102.s0t (K : Nat) (rec : f102.Ty0 → Option (f102.Ty2)) (t0 : Int) (t5 : Int) (t8 : Nat) (t9 : Int) (t10 : Int) (b0_0 : Nat) (b0_1 : List Int) : Option (f102.Ty2) :=
  bif (decide (t10 < t9)) then
    bif decide (0 ≤ t10 ∧ t10 < ((t8 : Nat) : Int)) then
      let v3 := 0 + (Int.toNat t10)
      bif Nat.blt v3 b0_0 then
        (f106.F K (t0, (IntKind.wrap .i64 (0 - (List.getD b0_1 v3 0))))).bind fun y6 =>
        rec (t0, (bits .xor .u32 t5 y6), t8, t9, (IntKind.wrap .i64 (t10 + 1)), b0_0, b0_1)
      else
        none
    else
      none
  else
    some (t5, b0_0, b0_1)
def f102.s0 (K : Nat) (rec : f102.Ty0 → Option (f102.Ty2)) (x : f102.Ty0) : Option (f102.Ty2) := f102.s0t K rec x.1 x.2.1 x.2.2.1 x.2.2.2.1 x.2.2.2.2.1 x.2.2.2.2.2.1 x.2.2.2.2.2.2
noncomputable def f102.s0.b : Code := (findLoop 0 f102.c).getD .skip
def f102.s0.h : Hint := { lv := [0, 5, 8, 9, 10] }
def f102.s0.ho : Hint := { lv := [5] }
def f102.s0.shp (x : f102.Ty0) : VS := ⟨[(0, .int .u32 x.1), (5, .int .u32 x.2.1), (8, .vw true 0 0 x.2.2.1 1), (9, .int .i64 x.2.2.2.1), (10, .int .i64 x.2.2.2.2.1)], [(0, ([.ints .i64 x.2.2.2.2.2.1 x.2.2.2.2.2.2], 0, .ro))], 2⟩
def f102.s0.inX : VS → Option (f102.Ty0)
  | ⟨[(0, .int .u32 t0), (5, .int .u32 t5), (8, .vw true 0 0 t8 1), (9, .int .i64 t9), (10, .int .i64 t10)], [(0, ([.ints .i64 b0_0 b0_1], 0, .ro))], 2⟩ => some (t0, t5, t8, t9, t10, b0_0, b0_1)
  | _ => none
def f102.s0.o0 (y : f102.Ty2) : VS := ⟨[(5, .int .u32 y.1)], [(0, ([.ints .i64 y.2.1 y.2.2], 0, .ro))], 2⟩
def f102.s0.des : ∀ α : Type, (f102.Ty2) → (Ex → VS → Option α) → Option α := (des1 (.exit 0) f102.s0.o0)
def f102.s0.out : f102.Ty2 → Ex × VS := (fun y => (.exit 0, f102.s0.o0 y))
theorem f102.s0.desOK : ∀ α y (k : Ex → VS → Option α), f102.s0.des α y k = k (f102.s0.out y).1 (f102.s0.out y).2 := (fun _ _ _ => rfl)
def f102.s0.inY : Ex → VS → Option (f102.Ty2)
  | .exit 0, ⟨[(5, .int .u32 t5)], [(0, ([.ints .i64 b0_0 b0_1], 0, .ro))], 2⟩ => some (t5, b0_0, b0_1)
  | _, _ => none
def f102.lp (K : Nat) : Nat → Option (Hint × Summ) := tabLp [(0, f102.s0.h, summOf (iter (f102.s0 K) K) f102.s0.inX f102.s0.des)]
noncomputable def f102.tab (K : Nat) : List (Nat × Entry) := [(106, (f106.E K))]
theorem f102.tabOK (K : Nat) : SpecOK Try.prog (tabSp (f102.tab K)) := tab_ok ((tab_cons (f106.ok K) tab_nil))
theorem f102.s0.eq (K : Nat) (rec : f102.Ty0 → Option (f102.Ty2)) (x : f102.Ty0) : f102.s0 K rec x = roundL (getA tys) (tabSp (f102.tab K)) 22 2 (f102.lp K) 400 f102.s0.b f102.s0.h f102.s0.ho f102.s0.shp f102.s0.inX f102.s0.inY rec x := by kernel_rfl
theorem f102.s0.lok (K : Nat) : LoopsOK Try.prog 22 2 (f102.lp K) f102.s0.b := loops_ok (by
  have h : loopsIn (f102.lp K) f102.s0.b = [] := by kernel_rfl
  rw [h]; simp)
theorem f102.s0.ok (K : Nat) : SummOK Try.prog 22 2 (summOf (iter (f102.s0 K) K) f102.s0.inX f102.s0.des) f102.s0.b :=
  loop_ok mix tys_ok (f102.tabOK K) (h := f102.s0.h) (ho := f102.s0.ho) (shp := f102.s0.shp) (inX := f102.s0.inX) (des := f102.s0.des) (out := f102.s0.out) (inY := f102.s0.inY) (fuel := 400)
    (by intro st x h; unfold f102.s0.inX at h; split at h <;> simp at h; subst h; rfl)
    (by intro e st y h; unfold f102.s0.inY at h; split at h <;> simp at h <;> subst h <;> rfl)
    f102.s0.desOK (f102.s0.lok K) (f102.s0 K) (f102.s0.eq K) K
theorem f102.loops (K : Nat) : LoopsOK Try.prog 22 2 (f102.lp K) f102.c := loops_ok (by
  have h : loopsIn (f102.lp K) f102.c = [(0, f102.s0.b)] := by kernel_rfl
  rw [h]
  intro p hp
  simp only [List.mem_cons, List.not_mem_nil, or_false] at hp
  rcases hp with rfl
  · exact ⟨_, rfl, (f102.s0.ok K)⟩)
def f102.T (K : Nat) (a0 : Int) (a1 : Nat) (m0_0 : Nat) (m0_1 : List Int) : Option (f102.Ty2) :=
  (iter (f102.s0 K) K (a0, 0, a1, ((a1 : Nat) : Int), 0, m0_0, m0_1)).bind fun y9 =>
  some (y9.1, y9.2.1, y9.2.2)
def f102.F (K : Nat) (x : f102.Ty1) : Option (f102.Ty2) := f102.T K x.1 x.2.1 x.2.2.1 x.2.2.2
def f102.av (x : f102.Ty1) : List VV := [.int .u32 x.1, .vw true 0 0 x.2.1 1]
def f102.bl (x : f102.Ty1) : List (Nat × Blk) := [(0, ([.ints .i64 x.2.2.1 x.2.2.2], 0, .ro))]
def f102.inA : VS → Option (f102.Ty1)
  | ⟨[(0, .int .u32 a0), (1, .vw true 0 0 a1 1)], [(0, ([.ints .i64 m0_0 m0_1], 0, .ro))], 2⟩ => some (a0, a1, m0_0, m0_1)
  | _ => none
def f102.o0 (y : f102.Ty2) : VS := ⟨[(0, .int .u32 y.1)], [(0, ([.ints .i64 y.2.1 y.2.2], 0, .ro))], 2⟩
def f102.des : ∀ α : Type, (f102.Ty2) → (VS → Option α) → Option α := (dv1 f102.o0)
def f102.out : f102.Ty2 → VS := f102.o0
def f102.inR : VS → Option (f102.Ty2)
  | ⟨[(0, .int .u32 y)], [(0, ([.ints .i64 z0_0 z0_1], 0, .ro))], 2⟩ => some (y, z0_0, z0_1)
  | _ => none
noncomputable def f102.E (K : Nat) : Entry := genE 2 f102.inA (f102.F K) f102.des
theorem f102.eq (K : Nat) (x : f102.Ty1) : f102.F K x = xrun (getA tys) (tabSp (f102.tab K)) Try.f102.ntmps 2 (f102.lp K) 400 f102.c ⟨initL 0 (f102.av x), f102.bl x, 2⟩ (contF (getA tys) 2 Try.f102.results.toList f102.inR) := by kernel_rfl
theorem f102.ok (K : Nat) : EntryOK Try.prog 102 (f102.E K) :=
  gen_ok mix tys_ok (f102.tabOK K) Try.func102 (by kernel_rfl : Try.f102.body = some f102.c) (by kernel_rfl) (f102.loops K) (av := f102.av) (bl := f102.bl) (out := f102.out) (fuel := 400)
    (by intro s x h; unfold f102.inA at h; split at h <;> simp at h; subst h; rfl) (fun _ => Nat.le_of_ble_eq_true rfl)
    (by intro s y h; unfold f102.inR at h; split at h <;> simp at h <;> subst h <;> rfl) (fun _ _ _ => rfl) (f102.eq K)
end Go.Proofs

namespace Go.Proofs
open Go.VM
abbrev f61.Ty0 := Int × Int × Nat × List Int × List Int
abbrev f61.Ty1 := Int × Int × Nat × List Int
abbrev f61.Ty2 := Nat × Int × Nat × List Int
abbrev f61.Ty3 := Int × Nat × List Int
noncomputable def f61.c : Code := bodyOf Try.f61
def f61.s0t (_K : Nat) (rec : f61.Ty0 → Option (f61.Ty3)) (t4 : Int) (t23 : Int) (b0_0 : Nat) (b0_1 : List Int) (b2 : List Int) : Option (f61.Ty3) :=
  bif (decide (t23 < 8)) then
    bif decide (0 ≤ t23 ∧ t23 < 8) then
      rec ((IntKind.wrap .u64 ((IntKind.wrap .u64 (256 * t4)) + (IntKind.wrap .u64 (List.getD b2 (Int.toNat t23) 0)))), (IntKind.wrap .i64 (t23 + 1)), b0_0, b0_1, b2)
    else
      none
  else
    some (t4, b0_0, b0_1)
def f61.s0 (K : Nat) (rec : f61.Ty0 → Option (f61.Ty3)) (x : f61.Ty0) : Option (f61.Ty3) := f61.s0t K rec x.1 x.2.1 x.2.2.1 x.2.2.2.1 x.2.2.2.2
noncomputable def f61.s0.b : Code := (findLoop 0 f61.c).getD .skip
def f61.s0.h : Hint := { lv := [4, 6, 23] }
def f61.s0.ho : Hint := { lv := [4] }
def f61.s0.shp (x : f61.Ty0) : VS := ⟨[(4, .int .u64 x.1), (6, .ptr 2 0), (23, .int .i64 x.2.1)], [(0, ([.ints .u8 x.2.2.1 x.2.2.2.1], 0, .ro)), (2, ([.ints .u8 8 x.2.2.2.2], 136, .norm))], 3⟩
def f61.s0.inX : VS → Option (f61.Ty0)
  | ⟨[(4, .int .u64 t4), (6, .ptr 2 0), (23, .int .i64 t23)], [(0, ([.ints .u8 b0_0 b0_1], 0, .ro)), (2, ([.ints .u8 8 b2], 136, .norm))], 3⟩ => some (t4, t23, b0_0, b0_1, b2)
  | _ => none
def f61.s0.o0 (y : f61.Ty3) : VS := ⟨[(4, .int .u64 y.1)], [(0, ([.ints .u8 y.2.1 y.2.2], 0, .ro))], 2⟩
def f61.s0.des : ∀ α : Type, (f61.Ty3) → (Ex → VS → Option α) → Option α := (des1 (.exit 0) f61.s0.o0)
def f61.s0.out : f61.Ty3 → Ex × VS := (fun y => (.exit 0, f61.s0.o0 y))
theorem f61.s0.desOK : ∀ α y (k : Ex → VS → Option α), f61.s0.des α y k = k (f61.s0.out y).1 (f61.s0.out y).2 := (fun _ _ _ => rfl)
def f61.s0.inY : Ex → VS → Option (f61.Ty3)
  | .exit 0, ⟨[(4, .int .u64 t4)], [(0, ([.ints .u8 b0_0 b0_1], 0, .ro))], 2⟩ => some (t4, b0_0, b0_1)
  | _, _ => none
def f61.lp (K : Nat) : Nat → Option (Hint × Summ) := tabLp [(0, f61.s0.h, summOf (iter (f61.s0 K) K) f61.s0.inX f61.s0.des)]
noncomputable def f61.tab (_K : Nat) : List (Nat × Entry) := []
theorem f61.tabOK (K : Nat) : SpecOK Try.prog (tabSp (f61.tab K)) := tab_ok ( tab_nil)
theorem f61.s0.eq (K : Nat) (rec : f61.Ty0 → Option (f61.Ty3)) (x : f61.Ty0) : f61.s0 K rec x = roundL (getA tys) (tabSp (f61.tab K)) 35 2 (f61.lp K) 400 f61.s0.b f61.s0.h f61.s0.ho f61.s0.shp f61.s0.inX f61.s0.inY rec x := by kernel_rfl
theorem f61.s0.lok (K : Nat) : LoopsOK Try.prog 35 2 (f61.lp K) f61.s0.b := loops_ok (by
  have h : loopsIn (f61.lp K) f61.s0.b = [] := by kernel_rfl
  rw [h]; simp)
theorem f61.s0.ok (K : Nat) : SummOK Try.prog 35 2 (summOf (iter (f61.s0 K) K) f61.s0.inX f61.s0.des) f61.s0.b :=
  loop_ok mix tys_ok (f61.tabOK K) (h := f61.s0.h) (ho := f61.s0.ho) (shp := f61.s0.shp) (inX := f61.s0.inX) (des := f61.s0.des) (out := f61.s0.out) (inY := f61.s0.inY) (fuel := 400)
    (by intro st x h; unfold f61.s0.inX at h; split at h <;> simp at h; subst h; rfl)
    (by intro e st y h; unfold f61.s0.inY at h; split at h <;> simp at h <;> subst h <;> rfl)
    f61.s0.desOK (f61.s0.lok K) (f61.s0 K) (f61.s0.eq K) K
theorem f61.loops (K : Nat) : LoopsOK Try.prog 35 2 (f61.lp K) f61.c := loops_ok (by
  have h : loopsIn (f61.lp K) f61.c = [(0, f61.s0.b)] := by kernel_rfl
  rw [h]
  intro p hp
  simp only [List.mem_cons, List.not_mem_nil, or_false] at hp
  rcases hp with rfl
  · exact ⟨_, rfl, (f61.s0.ok K)⟩)
def f61.T (K : Nat) (a0 : Nat) (a1 : Int) (m0_0 : Nat) (m0_1 : List Int) : Option (f61.Ty1) :=
  bif (decide (a1 < 0)) then
    some (0, 1, m0_0, m0_1)
  else
    bif (decide (a1 > 8)) then
      some (0, 1, m0_0, m0_1)
    else
      bif (decide (((a0 : Nat) : Int) < a1)) then
        some (0, 5, m0_0, m0_1)
      else
        let v5 := IntKind.wrap .i64 (8 - a1)
        bif decide (0 ≤ v5 ∧ v5 ≤ 8) then
          let v6 := bif Nat.beq 8 (Int.toNat v5) then 0 else 0 + (Int.toNat v5)
          let v7 := 8 - (Int.toNat v5)
          bif ((Nat.ble (0 + a0) m0_0 && (Nat.ble (v6 + v7) 8)) && (Nat.beq a0 a0)) then
            (iter (f61.s0 K) K (0, 0, m0_0, m0_1, (spl [0, 0, 0, 0, 0, 0, 0, 0] v6 (Nat.min a0 v7) (subI m0_1 0 a0)))).bind fun y18 =>
            some (y18.1, 0, y18.2.1, y18.2.2)
          else
            none
        else
          none
def f61.F (K : Nat) (x : f61.Ty2) : Option (f61.Ty1) := f61.T K x.1 x.2.1 x.2.2.1 x.2.2.2
def f61.av (x : f61.Ty2) : List VV := [.vw true 0 0 x.1 1, .int .i64 x.2.1]
def f61.bl (x : f61.Ty2) : List (Nat × Blk) := [(0, ([.ints .u8 x.2.2.1 x.2.2.2], 0, .ro))]
def f61.inA : VS → Option (f61.Ty2)
  | ⟨[(0, .vw true 0 0 a0 1), (1, .int .i64 a1)], [(0, ([.ints .u8 m0_0 m0_1], 0, .ro))], 2⟩ => some (a0, a1, m0_0, m0_1)
  | _ => none
def f61.o0 (y : f61.Ty1) : VS := ⟨[(0, .tup [.int .u64 y.1, .int .i64 y.2.1])], [(0, ([.ints .u8 y.2.2.1 y.2.2.2], 0, .ro))], 2⟩
def f61.des : ∀ α : Type, (f61.Ty1) → (VS → Option α) → Option α := (dv1 f61.o0)
def f61.out : f61.Ty1 → VS := f61.o0
def f61.inR : VS → Option (f61.Ty1)
  | ⟨[(0, .tup [.int .u64 y_0, .int .i64 y_1])], [(0, ([.ints .u8 z0_0 z0_1], 0, .ro))], 2⟩ => some (y_0, y_1, z0_0, z0_1)
  | _ => none
noncomputable def f61.E (K : Nat) : Entry := genE 2 f61.inA (f61.F K) f61.des
theorem f61.eq (K : Nat) (x : f61.Ty2) : f61.F K x = xrun (getA tys) (tabSp (f61.tab K)) Try.f61.ntmps 2 (f61.lp K) 400 f61.c ⟨initL 0 (f61.av x), f61.bl x, 2⟩ (contF (getA tys) 2 Try.f61.results.toList f61.inR) := by kernel_rfl
theorem f61.ok (K : Nat) : EntryOK Try.prog 61 (f61.E K) :=
  gen_ok mix tys_ok (f61.tabOK K) Try.func61 (by kernel_rfl : Try.f61.body = some f61.c) (by kernel_rfl) (f61.loops K) (av := f61.av) (bl := f61.bl) (out := f61.out) (fuel := 400)
    (by intro s x h; unfold f61.inA at h; split at h <;> simp at h; subst h; rfl) (fun _ => Nat.le_of_ble_eq_true rfl)
    (by intro s y h; unfold f61.inR at h; split at h <;> simp at h <;> subst h <;> rfl) (fun _ _ _ => rfl) (f61.eq K)
end Go.Proofs

namespace Go.Proofs
open Go.VM
abbrev f31.Ty0 := Nat × Int × Int × Nat × List Int × List Int
abbrev f31.Ty1 := Int × Nat × List Int × List Int
abbrev f31.Ty2 := List Int × Int × Nat × List Int
abbrev f31.Ty3 := Nat × Nat × List Int
noncomputable def f31.c : Code := bodyOf Try.f31
def f31.s0t (K : Nat) (rec : f31.Ty0 → Option ((f31.Ty1) ⊕ (f31.Ty1))) (t0 : Nat) (t3 : Int) (t6 : Int) (b0_0 : Nat) (b0_1 : List Int) (b2 : List Int) : Option ((f31.Ty1) ⊕ (f31.Ty1)) :=
  bif (decide (t6 < 4)) then
    bif (decide (((t0 : Nat) : Int) < 32)) then
      some (.inl (5, b0_0, b0_1, [0, 0, 0, 0]))
    else
      let v6 := IntKind.wrap .i64 (32 - (IntKind.wrap .i64 (8 * (IntKind.wrap .i64 (t6 + 1)))))
      let v7 := IntKind.wrap .i64 (v6 + 8)
      bif (decide (0 ≤ v7 ∧ v7 ≤ ((t0 : Nat) : Int)) && (decide (0 ≤ v6 ∧ v6 ≤ ((Int.toNat v7 : Nat) : Int)))) then
        let v8 := 0 + (Int.toNat v6)
        let v9 := (Int.toNat v7) - (Int.toNat v6)
        bif ((Nat.ble (v8 + v9) b0_0 && true) && true) then
          (f61.F K (v9, 8, v9, (subI b0_1 v8 v9))).bind fun y10 =>
          bif decide (0 ≤ t6 ∧ t6 < 4) then
            rec (t0, y10.2.1, (IntKind.wrap .i64 (t6 + 1)), b0_0, b0_1, (setD b2 (Int.toNat t6) y10.1))
          else
            none
        else
          none
      else
        none
  else
    some (.inr (t3, b0_0, b0_1, b2))
def f31.s0 (K : Nat) (rec : f31.Ty0 → Option ((f31.Ty1) ⊕ (f31.Ty1))) (x : f31.Ty0) : Option ((f31.Ty1) ⊕ (f31.Ty1)) := f31.s0t K rec x.1 x.2.1 x.2.2.1 x.2.2.2.1 x.2.2.2.2.1 x.2.2.2.2.2
noncomputable def f31.s0.b : Code := (findLoop 0 f31.c).getD .skip
def f31.s0.h : Hint := { lv := [0, 2, 3, 6] }
def f31.s0.ho : Hint := { lv := [2, 3] }
def f31.s0.shp (x : f31.Ty0) : VS := ⟨[(0, .vw true 0 0 x.1 1), (2, .ptr 2 0), (3, .int .i64 x.2.1), (6, .int .i64 x.2.2.1)], [(0, ([.ints .u8 x.2.2.2.1 x.2.2.2.2.1], 0, .ro)), (2, ([.ints .u64 4 x.2.2.2.2.2], 39, .norm))], 3⟩
def f31.s0.inX : VS → Option (f31.Ty0)
  | ⟨[(0, .vw true 0 0 t0 1), (2, .ptr 2 0), (3, .int .i64 t3), (6, .int .i64 t6)], [(0, ([.ints .u8 b0_0 b0_1], 0, .ro)), (2, ([.ints .u64 4 b2], 39, .norm))], 3⟩ => some (t0, t3, t6, b0_0, b0_1, b2)
  | _ => none
def f31.s0.o0 (y : f31.Ty1) : VS := ⟨[(2, .ptr 2 0), (3, .int .i64 y.1)], [(0, ([.ints .u8 y.2.1 y.2.2.1], 0, .ro)), (2, ([.ints .u64 4 y.2.2.2], 39, .norm))], 3⟩
def f31.s0.o1 (y : f31.Ty1) : VS := ⟨[(2, .ptr 2 0), (3, .int .i64 y.1)], [(0, ([.ints .u8 y.2.1 y.2.2.1], 0, .ro)), (2, ([.ints .u64 4 y.2.2.2], 39, .norm))], 3⟩
def f31.s0.des : ∀ α : Type, ((f31.Ty1) ⊕ (f31.Ty1)) → (Ex → VS → Option α) → Option α := (desA (des1 (.ret) f31.s0.o0) (des1 (.exit 0) f31.s0.o1))
def f31.s0.out : (f31.Ty1) ⊕ (f31.Ty1) → Ex × VS := (alt (fun y => (.ret, f31.s0.o0 y)) (fun y => (.exit 0, f31.s0.o1 y)))
theorem f31.s0.desOK : ∀ α y (k : Ex → VS → Option α), f31.s0.des α y k = k (f31.s0.out y).1 (f31.s0.out y).2 := (desA_ok (fun _ _ _ => rfl) (fun _ _ _ => rfl))
def f31.s0.inY : Ex → VS → Option ((f31.Ty1) ⊕ (f31.Ty1))
  | .ret, ⟨[(2, .ptr 2 0), (3, .int .i64 t3)], [(0, ([.ints .u8 b0_0 b0_1], 0, .ro)), (2, ([.ints .u64 4 b2], 39, .norm))], 3⟩ => some (.inl (t3, b0_0, b0_1, b2))
  | .exit 0, ⟨[(2, .ptr 2 0), (3, .int .i64 t3)], [(0, ([.ints .u8 b0_0 b0_1], 0, .ro)), (2, ([.ints .u64 4 b2], 39, .norm))], 3⟩ => some (.inr (t3, b0_0, b0_1, b2))
  | _, _ => none
def f31.lp (K : Nat) : Nat → Option (Hint × Summ) := tabLp [(0, f31.s0.h, summOf (iter (f31.s0 K) K) f31.s0.inX f31.s0.des)]
noncomputable def f31.tab (K : Nat) : List (Nat × Entry) := [(61, (viewE [(0, .u8)] (f61.E K)))]
theorem f31.tabOK (K : Nat) : SpecOK Try.prog (tabSp (f31.tab K)) := tab_ok ((tab_cons (view_ok (f61.ok K)) tab_nil))
theorem f31.s0.eq (K : Nat) (rec : f31.Ty0 → Option ((f31.Ty1) ⊕ (f31.Ty1))) (x : f31.Ty0) : f31.s0 K rec x = roundL (getA tys) (tabSp (f31.tab K)) 31 2 (f31.lp K) 400 f31.s0.b f31.s0.h f31.s0.ho f31.s0.shp f31.s0.inX f31.s0.inY rec x := by kernel_rfl
theorem f31.s0.lok (K : Nat) : LoopsOK Try.prog 31 2 (f31.lp K) f31.s0.b := loops_ok (by
  have h : loopsIn (f31.lp K) f31.s0.b = [] := by kernel_rfl
  rw [h]; simp)
theorem f31.s0.ok (K : Nat) : SummOK Try.prog 31 2 (summOf (iter (f31.s0 K) K) f31.s0.inX f31.s0.des) f31.s0.b :=
  loop_ok mix tys_ok (f31.tabOK K) (h := f31.s0.h) (ho := f31.s0.ho) (shp := f31.s0.shp) (inX := f31.s0.inX) (des := f31.s0.des) (out := f31.s0.out) (inY := f31.s0.inY) (fuel := 400)
    (by intro st x h; unfold f31.s0.inX at h; split at h <;> simp at h; subst h; rfl)
    (by intro e st y h; unfold f31.s0.inY at h; split at h <;> simp at h <;> subst h <;> rfl)
    f31.s0.desOK (f31.s0.lok K) (f31.s0 K) (f31.s0.eq K) K
theorem f31.loops (K : Nat) : LoopsOK Try.prog 31 2 (f31.lp K) f31.c := loops_ok (by
  have h : loopsIn (f31.lp K) f31.c = [(0, f31.s0.b)] := by kernel_rfl
  rw [h]
  intro p hp
  simp only [List.mem_cons, List.not_mem_nil, or_false] at hp
  rcases hp with rfl
  · exact ⟨_, rfl, (f31.s0.ok K)⟩)
def f31.T (K : Nat) (a0 : Nat) (m0_0 : Nat) (m0_1 : List Int) : Option (f31.Ty2) :=
  (iter (f31.s0 K) K (a0, 0, 0, m0_0, m0_1, [0, 0, 0, 0])).bind fun y14 =>
  alt (fun y15 =>
    some (y15.2.2.2, y15.1, y15.2.1, y15.2.2.1)) (fun y16 =>
    some (y16.2.2.2, y16.1, y16.2.1, y16.2.2.1)) y14
def f31.F (K : Nat) (x : f31.Ty3) : Option (f31.Ty2) := f31.T K x.1 x.2.1 x.2.2
def f31.av (x : f31.Ty3) : List VV := [.vw true 0 0 x.1 1]
def f31.bl (x : f31.Ty3) : List (Nat × Blk) := [(0, ([.ints .u8 x.2.1 x.2.2], 0, .ro))]
def f31.inA : VS → Option (f31.Ty3)
  | ⟨[(0, .vw true 0 0 a0 1)], [(0, ([.ints .u8 m0_0 m0_1], 0, .ro))], 2⟩ => some (a0, m0_0, m0_1)
  | _ => none
def f31.o0 (y : f31.Ty2) : VS := ⟨[(0, .tup [.agg [.ints .u64 4 y.1], .int .i64 y.2.1])], [(0, ([.ints .u8 y.2.2.1 y.2.2.2], 0, .ro))], 2⟩
def f31.des : ∀ α : Type, (f31.Ty2) → (VS → Option α) → Option α := (dv1 f31.o0)
def f31.out : f31.Ty2 → VS := f31.o0
def f31.inR : VS → Option (f31.Ty2)
  | ⟨[(0, .tup [.agg [.ints .u64 4 y_0], .int .i64 y_1])], [(0, ([.ints .u8 z0_0 z0_1], 0, .ro))], 2⟩ => some (y_0, y_1, z0_0, z0_1)
  | _ => none
noncomputable def f31.E (K : Nat) : Entry := genE 2 f31.inA (f31.F K) f31.des
theorem f31.eq (K : Nat) (x : f31.Ty3) : f31.F K x = xrun (getA tys) (tabSp (f31.tab K)) Try.f31.ntmps 2 (f31.lp K) 400 f31.c ⟨initL 0 (f31.av x), f31.bl x, 2⟩ (contF (getA tys) 2 Try.f31.results.toList f31.inR) := by kernel_rfl
theorem f31.ok (K : Nat) : EntryOK Try.prog 31 (f31.E K) :=
  gen_ok mix tys_ok (f31.tabOK K) Try.func31 (by kernel_rfl : Try.f31.body = some f31.c) (by kernel_rfl) (f31.loops K) (av := f31.av) (bl := f31.bl) (out := f31.out) (fuel := 400)
    (by intro s x h; unfold f31.inA at h; split at h <;> simp at h; subst h; rfl) (fun _ => Nat.le_of_ble_eq_true rfl)
    (by intro s y h; unfold f31.inR at h; split at h <;> simp at h <;> subst h <;> rfl) (fun _ _ _ => rfl) (f31.eq K)
end Go.Proofs

namespace Go.Proofs
open Go.VM
abbrev f59.Ty0 := Nat × Nat × Nat × List Int × Nat × List Int
abbrev f59.Ty1 := Nat × Int × Int × Nat × List Int
def f59.T (K : Nat) (a0 : Nat) (a1 : Int) (a2 : Int) (m0_0 : Nat) (m0_1 : List Int) : Option (f59.Ty0) :=
  bif ((Nat.ble (0 + a0) m0_0 && true) && true) then
    (f92.F K (a0, (maxE 0 (minE 8 a2)), 1, a0, (subI m0_1 0 a0), 1, [a1])).bind fun y2 =>
    some (y2.1, y2.2.1, m0_0, m0_1, y2.2.2.2.2.2.2.1, y2.2.2.2.2.2.2.2)
  else
    none
def f59.F (K : Nat) (x : f59.Ty1) : Option (f59.Ty0) := f59.T K x.1 x.2.1 x.2.2.1 x.2.2.2.1 x.2.2.2.2
def f59.av (x : f59.Ty1) : List VV := [.vw true 0 0 x.1 1, .int .u64 x.2.1, .int .i64 x.2.2.1]
def f59.bl (x : f59.Ty1) : List (Nat × Blk) := [(0, ([.ints .u8 x.2.2.2.1 x.2.2.2.2], 0, .ro))]
def f59.inA : VS → Option (f59.Ty1)
  | ⟨[(0, .vw true 0 0 a0 1), (1, .int .u64 a1), (2, .int .i64 a2)], [(0, ([.ints .u8 m0_0 m0_1], 0, .ro))], 2⟩ => some (a0, a1, a2, m0_0, m0_1)
  | _ => none
def f59.o0 (y : f59.Ty0) : VS := ⟨[(0, .sl 2 0 y.1 y.2.1)], [(0, ([.ints .u8 y.2.2.1 y.2.2.2.1], 0, .ro)), (2, ([.ints .u8 y.2.2.2.2.1 y.2.2.2.2.2], 5, .norm))], 3⟩
def f59.inR : VS → Option (f59.Ty0)
  | ⟨[(0, .sl 2 0 y_0 y_1)], [(0, ([.ints .u8 z0_0 z0_1], 0, .ro)), (2, ([.ints .u8 z2_0 z2_1], 5, .norm))], 3⟩ => some (y_0, y_1, z0_0, z0_1, z2_0, z2_1)
  | _ => none
noncomputable def f59.E (K : Nat) : Entry := genE 2 f59.inA (f59.F K) (dv1 f59.o0)
theorem f59.ok (K : Nat) : EntryOK Try.prog 59 (f59.E K) := gen_ok mix tys_ok (sp := tabSp [(92, (viewE [(0, .u8), (2, .u64)] (f92.E K)))]) (tab_ok ((tab_cons (view_ok (f92.ok K)) tab_nil))) Try.func59 (c := bodyOf Try.f59) (by kernel_rfl) (by kernel_rfl) (loops_none (lp := lpNone) (by kernel_rfl)) (av := f59.av) (bl := f59.bl) (inR := f59.inR) (out := f59.o0) (fuel := 400)
  (by intro s x h; unfold f59.inA at h; split at h <;> simp at h; subst h; rfl) (fun _ => Nat.le_of_ble_eq_true rfl)
  (by intro s y h; unfold f59.inR at h; split at h <;> simp at h <;> subst h <;> rfl) (fun _ _ _ => rfl) (fun _ => by kernel_rfl)
end Go.Proofs

namespace Go.Proofs
open Go.VM
theorem low_be : ∀ n x : Nat, x < 18446744073709551616 → Rw.low n (x : Int) = be n x
  | 0, _, _ => rfl
  | n + 1, x, h => by
    have e : Rw.nxt (x : Int) = ((x / 256 : Nat) : Int) := by
      rw [Rw.nxt, show (256 : Int) = ((256 : Nat) : Int) from rfl, tdiv_nat, wrap_u _ (by omega) (by omega)]
    rw [Rw.low, e, low_be n (x / 256) (by omega), be, Rw.byt]
    rfl
theorem octets_pad {l : List Int} (h : octets l) (n : Nat) : octets (padT l n) := by
  intro x hx
  simp only [padT, List.mem_map, List.mem_range] at hx
  obtain ⟨i, _, rfl⟩ := hx
  rw [List.getD_eq_getElem?_getD]
  cases e : l[i]? with
  | none => simp
  | some y => exact h y (List.mem_of_getElem? e)
theorem octets_sub {l : List Int} (h : octets l) (i n : Nat) : octets (subI l i n) := by
  intro x hx
  simp only [subI, List.mem_map, List.mem_range] at hx
  obtain ⟨j, _, rfl⟩ := hx
  rw [List.getD_eq_getElem?_getD]
  cases e : l[i + j]? with
  | none => simp
  | some y => exact h y (List.mem_of_getElem? e)
theorem octets_spl {l m : List Int} (h : octets l) (h2 : octets m) (i n : Nat) : octets (spl l i n m) := by
  rw [spl]
  exact octets_append (octets_append (octets_pad h _) (octets_pad h2 _)) fun x hx => h x (List.mem_of_mem_drop hx)
theorem subI_length (l : List Int) (i n : Nat) : (subI l i n).length = n := by simp [subI]
theorem row_flat (e : Nat) : ∀ (xs : List Nat), (∀ x ∈ xs, x < 18446744073709551616) → (xs.map fun x : Nat => (x : Int)).flatMap (Rw.low e) = xs.flatMap (be e)
  | [], _ => rfl
  | x :: xs, h => by
    rw [List.map_cons, List.flatMap_cons, List.flatMap_cons, row_flat e xs fun y hy => h y (List.mem_cons_of_mem _ hy), low_be e x (h x List.mem_cons_self)]
theorem f92.spec (K a e m : Nat) (l : List Int) (xs : List Nat) (hl : l.length = a) (hm : xs.length = m) (hx : ∀ x ∈ xs, x < 18446744073709551616) (he : e ≤ 8) (ha : a + e * m ≤ 140737488355328) (hm2 : m ≤ 1000000000) :
    f92.F K (a, (e : Int), m, a, l, m, xs.map fun x : Nat => (x : Int)) = some (a + e * m, a + e * m, a, l, m, (xs.map fun x : Nat => (x : Int)), a + e * m, l ++ xs.flatMap (be e)) := by
  rw [f92.F]
  simp only [Int.toNat_natCast]
  rw [show Nat.beq a a = true from Nat.beq_refl a, show Nat.beq m m = true from Nat.beq_refl m, decide_eq_true (show (0 : Int) ≤ (e : Int) ∧ (e : Int) ≤ 8 by omega), ble_true ha, ble_true (show m * 8 ≤ 140737488351232 by omega),
    Bool.and_self, Bool.and_self, Bool.and_self, Bool.and_self, cond_t, padT_self l hl, padT_self _ (by simpa using hm), row_flat e xs hx]
theorem f59.spec (K a n x : Nat) (l : List Int) (hl : l.length = a) (hx : x < 18446744073709551616) (hn : n ≤ 8) (ha : a ≤ 1000000000) :
    f59.F K (a, (x : Int), (n : Int), a, l) = some (a + n, a + n, a, l, a + n, l ++ be n x) := by
  have e1 : maxE 0 (minE 8 (n : Int)) = (n : Int) := by
    unfold maxE minE
    rcases Nat.lt_or_ge n 8 with h | h
    · rw [decide_eq_true (show (n : Int) < 8 by omega), cond_t]
      rcases Nat.eq_zero_or_pos n with h0 | h0
      · subst h0; rfl
      · rw [decide_eq_true (show (n : Int) > 0 by omega), cond_t]
    · have : n = 8 := by omega
      subst this; rfl
  have e2 := f92.spec K a n 1 l [x] hl rfl (by simpa using hx) hn (by omega) (by omega)
  simp only [List.map_cons, List.map_nil, List.flatMap_cons, List.flatMap_nil, List.append_nil, Nat.mul_one] at e2
  simp only [f59.F, f59.T]
  rw [Nat.zero_add, ble_true (Nat.le_refl a), Bool.and_self, Bool.and_self, cond_t, e1, subI_self l hl, e2, bind_s]
theorem take_snoc {l : List Int} {i : Nat} (h : i < l.length) : l.take (i + 1) = l.take i ++ [l.getD i 0] := by
  rw [List.take_add_one, List.getD_eq_getElem?_getD, List.getElem?_eq_getElem h]; rfl
theorem tv_zeros : ∀ n, tv (List.replicate n 0) = 0
  | 0 => rfl
  | n + 1 => by rw [List.replicate_succ', tv_snoc, tv_zeros n]; rfl
theorem octets_zeros (n : Nat) : octets (List.replicate n 0) := fun x hx => by rw [List.mem_replicate] at hx; omega
theorem f61.loop (K n : Nat) (l b : List Int) (hb : b.length = 8) (ho : octets b) (hK : 8 < K) : iter (f61.s0 K) K (0, 0, n, l, b) = some (((tv b : Nat) : Int), n, l) := by
  have := iter_for (stp := f61.s0 K) (N := 8) (fun i => (((tv (b.take i) : Nat) : Int), (i : Int), n, l, b)) (y := some (((tv b : Nat) : Int), n, l)) ?_ ?_ hK
  · exact this
  · intro i hi rec
    simp only [f61.s0, f61.s0t]
    have hg := ho (b.getD i 0) (by rw [List.getD_eq_getElem?_getD, List.getElem?_eq_getElem (by omega)]; exact List.getElem_mem _)
    have h1 : tv (b.take i) < 256 ^ i := tv_lt i _ (by simp; omega) fun x hx => ho x (List.mem_of_mem_take hx)
    have h2 : (256 : Nat) ^ i ≤ 256 ^ 7 := Nat.pow_le_pow_right (by decide) (by omega)
    have h3 : (256 : Nat) ^ 7 = 72057594037927936 := by decide
    have e5 : (256 : Int) * ((tv (b.take i) : Nat) : Int) = ((256 * tv (b.take i) : Nat) : Int) := by rw [Int.natCast_mul]; rfl
    rw [decide_eq_true (show (i : Int) < 8 by omega), cond_t, decide_eq_true (show (0 : Int) ≤ (i : Int) ∧ (i : Int) < 8 by omega), cond_t, Int.toNat_natCast, e5, wrap_u ((256 * tv (b.take i) : Nat) : Int) (by omega) (by omega), wrap_u (b.getD i 0) (by omega) (by omega), wrap_u (((256 * tv (b.take i) : Nat) : Int) + b.getD i 0) (by omega) (by omega), wrap_i _ (by omega) (by omega), take_snoc (by omega), tv_snoc]
    congr 2
    omega
  · intro rec
    simp only [f61.s0, f61.s0t]
    rw [List.take_of_length_le (by omega)]
    rfl
theorem f61.spec (K n m : Nat) (l : List Int) (hl : l.length = n) (ho : octets l) (hm : 1 ≤ m) (hm8 : m ≤ 8) (hn : m ≤ n) (hK : 8 < K) : f61.F K (n, (m : Int), n, l) = some (((tv (l.take m) : Nat) : Int), 0, n, l) := by
  simp only [f61.F, f61.T]
  have e : IntKind.wrap .i64 (8 - (m : Int)) = ((8 - m : Nat) : Int) := by rw [wrap_i _ (by omega) (by omega)]; omega
  have e6 : (bif Nat.beq 8 (8 - m) then 0 else 0 + (8 - m)) = 8 - m := by
    rw [show Nat.beq 8 (8 - m) = false from (by rw [← Bool.not_eq_true, Nat.beq_eq]; omega), cond_f, Nat.zero_add]
  have e7 : spl [0, 0, 0, 0, 0, 0, 0, 0] (8 - m) (Nat.min n (8 - (8 - m))) (subI l 0 n) = List.replicate (8 - m) 0 ++ l.take m := by
    have q : Nat.min n (8 - (8 - m)) = m := by show min n _ = m; omega
    rw [q, subI_self l hl, spl, List.drop_of_length_le (by simp; omega), List.append_nil]
    congr 1
    · refine List.ext_getElem? fun i => ?_
      by_cases hi : i < 8 - m
      · have : i < 8 := by omega
        rw [List.getElem?_replicate, if_pos hi]
        simp only [padT, List.getElem?_map, List.getElem?_range hi, Option.map_some]
        congr 1
        match i, this with
        | 0, _ | 1, _ | 2, _ | 3, _ | 4, _ | 5, _ | 6, _ | 7, _ => rfl
      · rw [List.getElem?_eq_none (by simpa [padT] using hi), List.getElem?_eq_none (by simpa using hi)]
    · refine List.ext_getElem? fun i => ?_
      rw [List.getElem?_take]
      by_cases hi : i < m
      · rw [if_pos hi]
        have : i < l.length := by omega
        simp [padT, hi, this]
      · rw [if_neg hi, List.getElem?_eq_none (by simpa [padT] using hi)]
  rw [decide_eq_false (show ¬ (m : Int) < 0 by omega), cond_f, decide_eq_false (show ¬ (m : Int) > 8 by omega), cond_f, decide_eq_false (show ¬ ((n : Nat) : Int) < (m : Int) by omega), cond_f, e, decide_eq_true (show (0 : Int) ≤ ((8 - m : Nat) : Int) ∧ ((8 - m : Nat) : Int) ≤ 8 by omega), cond_t]
  simp only [Int.toNat_natCast]
  rw [e6, e7, Nat.zero_add, ble_true (Nat.le_refl n), ble_true (show 8 - m + (8 - (8 - m)) ≤ 8 by omega), show Nat.beq n n = true from Nat.beq_refl n, Bool.and_self, Bool.and_self, cond_t,
    f61.loop K n l _ (by simp; omega) (octets_append (octets_zeros _) fun x hx => ho x (List.mem_of_mem_take hx)) hK, bind_s, tv_append, tv_zeros, Nat.zero_mul, Nat.zero_add]
end Go.Proofs

namespace Go.Proofs
open Go.VM
abbrev f100.Ty0 := List Int × Int × Int × List Int × List Int × Int
abbrev f100.Ty1 := List Int × Int × Int × List Int
def f100.T (_K : Nat) (m0_0 : List Int) (m0_1 : Int) (m0_2 : Int) (m1 : List Int) : Option (f100.Ty0) :=
  some (m0_0, m0_1, m0_2, m1, [0, 0, 0, 0, 0, 0, 0, 0, 0, 0, 0, 0, 0, 0, 0, 0], 0)
def f100.F (K : Nat) (x : f100.Ty1) : Option (f100.Ty0) := f100.T K x.1 x.2.1 x.2.2.1 x.2.2.2
def f100.av (_x : f100.Ty1) : List VV := [.ptr 0 1]
def f100.bl (x : f100.Ty1) : List (Nat × Blk) := [(0, ([.ptr 1 0, .ints .u8 64 x.1, .int .i64 x.2.1, .int .u64 x.2.2.1], 117, .norm)), (1, ([.ints .u32 8 x.2.2.2], 113, .norm))]
def f100.inA : VS → Option (f100.Ty1)
  | ⟨[(0, .ptr 0 1)], [(0, ([.ptr 1 0, .ints .u8 64 m0_0, .int .i64 m0_1, .int .u64 m0_2], 117, .norm)), (1, ([.ints .u32 8 m1], 113, .norm))], 2⟩ => some (m0_0, m0_1, m0_2, m1)
  | _ => none
def f100.o0 (y : f100.Ty0) : VS := ⟨[(0, .fn 105 [.ptr 2 0, .ptr 3 0, .ptr 4 0])], [(0, ([.ptr 1 0, .ints .u8 64 y.1, .int .i64 y.2.1, .int .u64 y.2.2.1], 117, .norm)), (1, ([.ints .u32 8 y.2.2.2.1], 113, .norm)), (2, ([.ints .u32 16 y.2.2.2.2.1], 152, .norm)), (3, ([.int .i64 y.2.2.2.2.2], 3, .norm)), (4, ([.ptr 0 1], 133, .norm))], 5⟩
def f100.inR : VS → Option (f100.Ty0)
  | ⟨[(0, .fn 105 [.ptr 2 0, .ptr 3 0, .ptr 4 0])], [(0, ([.ptr 1 0, .ints .u8 64 z0_0, .int .i64 z0_1, .int .u64 z0_2], 117, .norm)), (1, ([.ints .u32 8 z1], 113, .norm)), (2, ([.ints .u32 16 z2], 152, .norm)), (3, ([.int .i64 z3], 3, .norm)), (4, ([.ptr 0 1], 133, .norm))], 5⟩ => some (z0_0, z0_1, z0_2, z1, z2, z3)
  | _ => none
noncomputable def f100.E (K : Nat) : Entry := genE 2 f100.inA (f100.F K) (dv1 f100.o0)
theorem f100.ok (K : Nat) : EntryOK Try.prog 100 (f100.E K) := gen_ok mix tys_ok (tab_ok ( tab_nil)) Try.func100 (c := bodyOf Try.f100) (by kernel_rfl) (by kernel_rfl) (loops_none (lp := lpNone) (by kernel_rfl)) (av := f100.av) (bl := f100.bl) (inR := f100.inR) (out := f100.o0) (fuel := 400)
  (by intro s x h; unfold f100.inA at h; split at h <;> simp at h; subst h; rfl) (fun _ => Nat.le_of_ble_eq_true rfl)
  (by intro s y h; unfold f100.inR at h; split at h <;> simp at h <;> subst h <;> rfl) (fun _ _ _ => rfl) (fun _ => by kernel_rfl)
end Go.Proofs

namespace Go.Proofs
open Go.VM
def f101.T (_K : Nat)  : Option (List Int) :=
  some ([1116352408, 1899447441, 3049323471, 3921009573, 961987163, 1508970993, 2453635748, 2870763221, 3624381080, 310598401, 607225278, 1426881987, 1925078388, 2162078206, 2614888103, 3248222580, 3835390401, 4022224774, 264347078, 604807628, 770255983, 1249150122, 1555081692, 1996064986, 2554220882, 2821834349, 2952996808, 3210313671, 3336571891, 3584528711, 113926993, 338241895, 666307205, 773529912, 1294757372, 1396182291, 1695183700, 1986661051, 2177026350, 2456956037, 2730485921, 2820302411, 3259730800, 3345764771, 3516065817, 3600352804, 4094571909, 275423344, 430227734, 506948616, 659060556, 883997877, 958139571, 1322822218, 1537002063, 1747873779, 1955562222, 2024104815, 2227730452, 2361852424, 2428436474, 2756734187, 3204031479, 3329325298])
def f101.F (K : Nat) (_x : Unit) : Option (List Int) := f101.T K
def f101.av (_x : Unit) : List VV := []
def f101.bl (_x : Unit) : List (Nat × Blk) := []
def f101.inA : VS → Option (Unit)
  | ⟨[], [], 0⟩ => some ()
  | _ => none
def f101.o0 (y : List Int) : VS := ⟨[(0, .agg [.ints .u32 64 y])], [], 0⟩
def f101.inR : VS → Option (List Int)
  | ⟨[(0, .agg [.ints .u32 64 y])], [], 0⟩ => some y
  | _ => none
noncomputable def f101.E (K : Nat) : Entry := genE 0 f101.inA (f101.F K) (dv1 f101.o0)
theorem f101.ok (K : Nat) : EntryOK Try.prog 101 (f101.E K) := gen_ok mix tys_ok (tab_ok ( tab_nil)) Try.func101 (c := bodyOf Try.f101) (by kernel_rfl) (by kernel_rfl) (loops_none (lp := lpNone) (by kernel_rfl)) (av := f101.av) (bl := f101.bl) (inR := f101.inR) (out := f101.o0) (fuel := 400)
  (by intro s x h; unfold f101.inA at h; split at h <;> simp at h; rfl) (fun _ => Nat.le_of_ble_eq_true rfl)
  (by intro s y h; unfold f101.inR at h; split at h <;> simp at h <;> subst h <;> rfl) (fun _ _ _ => rfl) (fun _ => by kernel_rfl)
end Go.Proofs

namespace Go.Proofs
open Go.VM
abbrev f105.Ty0 := Int × List Int × Int × List Int × Int × Int × List Int
abbrev f105.Ty1 := List Int × Int × List Int × Int × Int × List Int
def f105.T (K : Nat) (m0 : List Int) (m1 : Int) (m3_0 : List Int) (m3_1 : Int) (m3_2 : Int) (m4 : List Int) : Option (f105.Ty0) :=
  let v1 := Int.tmod m1 16
  bif decide (0 ≤ v1 ∧ v1 < 16) then
    let v2 := Int.toNat v1
    bif (decide (m1 < 16)) then
      let v4 := IntKind.wrap .i64 (4 * m1)
      bif decide (0 ≤ v4 ∧ v4 ≤ 64) then
        let v5 := bif Nat.beq 64 (Int.toNat v4) then 0 else (Int.toNat v4)
        let v6 := 64 - (Int.toNat v4)
        bif ((Nat.ble (v5 + v6) 64 && (Nat.ble v6 (64 - (Int.toNat v4)))) && true) then
          (f61.F K (v6, 4, v6, (subI m3_0 v5 v6))).bind fun y8 =>
          let v10 := setD m0 v2 (IntKind.wrap .u32 y8.1)
          some ((List.getD v10 v2 0), v10, (IntKind.wrap .i64 (m1 + 1)), m3_0, m3_1, m3_2, m4)
        else
          none
      else
        none
    else
      let v14 := Int.tmod (IntKind.wrap .i64 (m1 + 1)) 16
      bif decide (0 ≤ v14 ∧ v14 < 16) then
        let v16 := List.getD m0 (Int.toNat v14) 0
        let v18 := Int.tmod (IntKind.wrap .i64 (m1 + 14)) 16
        bif decide (0 ≤ v18 ∧ v18 < 16) then
          let v20 := List.getD m0 (Int.toNat v18) 0
          (f102.F K (v16, 2, 2, [7, 18])).bind fun y22 =>
          let v26 := setD m0 v2 (IntKind.wrap .u32 ((List.getD m0 v2 0) + (bits .xor .u32 y22.1 (Int.fdiv v16 (2 ^ 3)))))
          (f102.F K (v20, 2, 2, [17, 19])).bind fun y28 =>
          let v32 := setD v26 v2 (IntKind.wrap .u32 ((List.getD v26 v2 0) + (bits .xor .u32 y28.1 (Int.fdiv v20 (2 ^ 10)))))
          let v35 := Int.tmod (IntKind.wrap .i64 (m1 + 9)) 16
          bif decide (0 ≤ v35 ∧ v35 < 16) then
            let v39 := setD v32 v2 (IntKind.wrap .u32 ((List.getD v32 v2 0) + (List.getD v32 (Int.toNat v35) 0)))
            some ((List.getD v39 v2 0), v39, (IntKind.wrap .i64 (m1 + 1)), m3_0, m3_1, m3_2, m4)
          else
            none
        else
          none
      else
        none
  else
    none
def f105.F (K : Nat) (x : f105.Ty1) : Option (f105.Ty0) := f105.T K x.1 x.2.1 x.2.2.1 x.2.2.2.1 x.2.2.2.2.1 x.2.2.2.2.2
def f105.av (_x : f105.Ty1) : List VV := [.ptr 0 0, .ptr 1 0, .ptr 2 0]
def f105.bl (x : f105.Ty1) : List (Nat × Blk) := [(0, ([.ints .u32 16 x.1], 152, .norm)), (1, ([.int .i64 x.2.1], 3, .norm)), (2, ([.ptr 3 1], 133, .norm)), (3, ([.ptr 4 0, .ints .u8 64 x.2.2.1, .int .i64 x.2.2.2.1, .int .u64 x.2.2.2.2.1], 117, .norm)), (4, ([.ints .u32 8 x.2.2.2.2.2], 113, .norm))]
def f105.inA : VS → Option (f105.Ty1)
  | ⟨[(0, .ptr 0 0), (1, .ptr 1 0), (2, .ptr 2 0)], [(0, ([.ints .u32 16 m0], 152, .norm)), (1, ([.int .i64 m1], 3, .norm)), (2, ([.ptr 3 1], 133, .norm)), (3, ([.ptr 4 0, .ints .u8 64 m3_0, .int .i64 m3_1, .int .u64 m3_2], 117, .norm)), (4, ([.ints .u32 8 m4], 113, .norm))], 5⟩ => some (m0, m1, m3_0, m3_1, m3_2, m4)
  | _ => none
def f105.o0 (y : f105.Ty0) : VS := ⟨[(0, .int .u32 y.1)], [(0, ([.ints .u32 16 y.2.1], 152, .norm)), (1, ([.int .i64 y.2.2.1], 3, .norm)), (2, ([.ptr 3 1], 133, .norm)), (3, ([.ptr 4 0, .ints .u8 64 y.2.2.2.1, .int .i64 y.2.2.2.2.1, .int .u64 y.2.2.2.2.2.1], 117, .norm)), (4, ([.ints .u32 8 y.2.2.2.2.2.2], 113, .norm))], 5⟩
def f105.inR : VS → Option (f105.Ty0)
  | ⟨[(0, .int .u32 y)], [(0, ([.ints .u32 16 z0], 152, .norm)), (1, ([.int .i64 z1], 3, .norm)), (2, ([.ptr 3 1], 133, .norm)), (3, ([.ptr 4 0, .ints .u8 64 z3_0, .int .i64 z3_1, .int .u64 z3_2], 117, .norm)), (4, ([.ints .u32 8 z4], 113, .norm))], 5⟩ => some (y, z0, z1, z3_0, z3_1, z3_2, z4)
  | _ => none
noncomputable def f105.E (K : Nat) : Entry := genE 5 f105.inA (f105.F K) (dv1 f105.o0)
theorem f105.ok (K : Nat) : EntryOK Try.prog 105 (f105.E K) := gen_ok mix tys_ok (sp := tabSp [(61, (viewE [(0, .u8)] (f61.E K))), (102, (viewE [(1, .i64)] (f102.E K)))]) (tab_ok ((tab_cons (view_ok (f61.ok K)) (tab_cons (view_ok (f102.ok K)) tab_nil)))) Try.func105 (c := bodyOf Try.f105) (by kernel_rfl) (by kernel_rfl) (loops_none (lp := lpNone) (by kernel_rfl)) (av := f105.av) (bl := f105.bl) (inR := f105.inR) (out := f105.o0) (fuel := 400)
  (by intro s x h; unfold f105.inA at h; split at h <;> simp at h; subst h; rfl) (fun _ => Nat.le_of_ble_eq_true rfl)
  (by intro s y h; unfold f105.inR at h; split at h <;> simp at h <;> subst h <;> rfl) (fun _ _ _ => rfl) (fun _ => by kernel_rfl)
end Go.Proofs

namespace Go.Proofs
open Go.VM
abbrev f90.Ty0 := List Int × Int × List Int × Int × Int × List Int × List Int × List Int × List Int × List Int × Int
abbrev f90.Ty1 := List Int × Int × List Int × Int × Int × List Int × List Int × List Int
abbrev f90.Ty2 := List Int × Int × Int × List Int × List Int × List Int × List Int
abbrev f90.Ty3 := List Int × Int × Int × List Int × List Int × List Int
abbrev f90.Ty4 := List Int × List Int × Int × Int × List Int
noncomputable def f90.c : Code := bodyOf Try.f90
def f90.s0t (K : Nat) (rec : f90.Ty0 → Option (f90.Ty2)) (t16 : List Int) (t17 : Int) (b0_0 : List Int) (b0_1 : Int) (b0_2 : Int) (b1 : List Int) (b2 : List Int) (b3 : List Int) (b4 : List Int) (b5 : List Int) (b6 : Int) : Option (f90.Ty2) :=
  bif (decide (t17 < 64)) then
    bif decide (0 ≤ t17 ∧ t17 < 64) then
      (f102.F K ((List.getD b4 4 0), 3, 3, [6, 11, 25])).bind fun y7 =>
      (f105.F K (b5, b6, b0_0, b0_1, b0_2, b1)).bind fun y19 =>
      let v20 := IntKind.wrap .u32 ((IntKind.wrap .u32 ((IntKind.wrap .u32 ((IntKind.wrap .u32 ((List.getD b4 7 0) + y7.1)) + (bits .or .u32 (bits .and .u32 (List.getD b4 4 0) (List.getD b4 5 0)) (bits .and .u32 (bits .xor .u32 4294967295 (List.getD b4 4 0)) (List.getD b4 6 0))))) + (List.getD t16 (Int.toNat t17) 0))) + y19.1)
      (f102.F K ((List.getD b4 0 0), 3, 3, [2, 13, 22])).bind fun y22 =>
      let v33 := spl b4 1 7 (subI b4 0 7)
      rec (t16, (IntKind.wrap .i64 (t17 + 1)), y19.2.2.2.1, y19.2.2.2.2.1, y19.2.2.2.2.2.1, y19.2.2.2.2.2.2, b2, b3, (setD (setD v33 4 (IntKind.wrap .u32 ((List.getD v33 4 0) + v20))) 0 (IntKind.wrap .u32 (v20 + (IntKind.wrap .u32 (y22.1 + (bits .xor .u32 (bits .and .u32 (List.getD b4 0 0) (bits .xor .u32 (List.getD b4 1 0) (List.getD b4 2 0))) (bits .and .u32 (List.getD b4 1 0) (List.getD b4 2 0)))))))), y19.2.1, y19.2.2.1)
    else
      none
  else
    some (b0_0, b0_1, b0_2, b1, b2, b3, b4)
def f90.s0 (K : Nat) (rec : f90.Ty0 → Option (f90.Ty2)) (x : f90.Ty0) : Option (f90.Ty2) := f90.s0t K rec x.1 x.2.1 x.2.2.1 x.2.2.2.1 x.2.2.2.2.1 x.2.2.2.2.2.1 x.2.2.2.2.2.2.1 x.2.2.2.2.2.2.2.1 x.2.2.2.2.2.2.2.2.1 x.2.2.2.2.2.2.2.2.2.1 x.2.2.2.2.2.2.2.2.2.2
noncomputable def f90.s0.b : Code := (findLoop 0 f90.c).getD .skip
def f90.s0.h : Hint := { lv := [2, 4, 5, 6, 16, 17] }
def f90.s0.ho : Hint := { lv := [2, 4, 5] }
def f90.s0.shp (x : f90.Ty0) : VS := ⟨[(2, .ptr 2 0), (4, .ptr 3 0), (5, .ptr 4 0), (6, .fn 105 [.ptr 5 0, .ptr 6 0, .ptr 7 0]), (16, .agg [.ints .u32 64 x.1]), (17, .int .i64 x.2.1)], [(0, ([.ptr 1 0, .ints .u8 64 x.2.2.1, .int .i64 x.2.2.2.1, .int .u64 x.2.2.2.2.1], 117, .norm)), (1, ([.ints .u32 8 x.2.2.2.2.2.1], 113, .norm)), (2, ([.ints .u32 8 x.2.2.2.2.2.2.1], 113, .norm)), (3, ([.ints .u32 8 x.2.2.2.2.2.2.2.1], 113, .norm)), (4, ([.ints .u32 8 x.2.2.2.2.2.2.2.2.1], 113, .norm)), (5, ([.ints .u32 16 x.2.2.2.2.2.2.2.2.2.1], 152, .norm)), (6, ([.int .i64 x.2.2.2.2.2.2.2.2.2.2], 3, .norm)), (7, ([.ptr 0 1], 133, .norm))], 8⟩
def f90.s0.inX : VS → Option (f90.Ty0)
  | ⟨[(2, .ptr 2 0), (4, .ptr 3 0), (5, .ptr 4 0), (6, .fn 105 [.ptr 5 0, .ptr 6 0, .ptr 7 0]), (16, .agg [.ints .u32 64 t16]), (17, .int .i64 t17)], [(0, ([.ptr 1 0, .ints .u8 64 b0_0, .int .i64 b0_1, .int .u64 b0_2], 117, .norm)), (1, ([.ints .u32 8 b1], 113, .norm)), (2, ([.ints .u32 8 b2], 113, .norm)), (3, ([.ints .u32 8 b3], 113, .norm)), (4, ([.ints .u32 8 b4], 113, .norm)), (5, ([.ints .u32 16 b5], 152, .norm)), (6, ([.int .i64 b6], 3, .norm)), (7, ([.ptr 0 1], 133, .norm))], 8⟩ => some (t16, t17, b0_0, b0_1, b0_2, b1, b2, b3, b4, b5, b6)
  | _ => none
def f90.s0.o0 (y : f90.Ty2) : VS := ⟨[(2, .ptr 2 0), (4, .ptr 3 0), (5, .ptr 4 0)], [(0, ([.ptr 1 0, .ints .u8 64 y.1, .int .i64 y.2.1, .int .u64 y.2.2.1], 117, .norm)), (1, ([.ints .u32 8 y.2.2.2.1], 113, .norm)), (2, ([.ints .u32 8 y.2.2.2.2.1], 113, .norm)), (3, ([.ints .u32 8 y.2.2.2.2.2.1], 113, .norm)), (4, ([.ints .u32 8 y.2.2.2.2.2.2], 113, .norm))], 5⟩
def f90.s0.des : ∀ α : Type, (f90.Ty2) → (Ex → VS → Option α) → Option α := (des1 (.exit 0) f90.s0.o0)
def f90.s0.out : f90.Ty2 → Ex × VS := (fun y => (.exit 0, f90.s0.o0 y))
theorem f90.s0.desOK : ∀ α y (k : Ex → VS → Option α), f90.s0.des α y k = k (f90.s0.out y).1 (f90.s0.out y).2 := (fun _ _ _ => rfl)
def f90.s0.inY : Ex → VS → Option (f90.Ty2)
  | .exit 0, ⟨[(2, .ptr 2 0), (4, .ptr 3 0), (5, .ptr 4 0)], [(0, ([.ptr 1 0, .ints .u8 64 b0_0, .int .i64 b0_1, .int .u64 b0_2], 117, .norm)), (1, ([.ints .u32 8 b1], 113, .norm)), (2, ([.ints .u32 8 b2], 113, .norm)), (3, ([.ints .u32 8 b3], 113, .norm)), (4, ([.ints .u32 8 b4], 113, .norm))], 5⟩ => some (b0_0, b0_1, b0_2, b1, b2, b3, b4)
  | _, _ => none
def f90.s2t (_K : Nat) (rec : f90.Ty1 → Option (f90.Ty3)) (t77 : List Int) (t78 : Int) (b0_0 : List Int) (b0_1 : Int) (b0_2 : Int) (b1 : List Int) (b2 : List Int) (b3 : List Int) : Option (f90.Ty3) :=
  bif (decide (t78 < 8)) then
    bif decide (0 ≤ t78 ∧ t78 < 8) then
      bif decide (0 ≤ t78 ∧ t78 < 8) then
        bif decide (0 ≤ t78 ∧ t78 < 8) then
          rec (t77, (IntKind.wrap .i64 (t78 + 1)), b0_0, b0_1, b0_2, b1, b2, (setD b3 (Int.toNat t78) (IntKind.wrap .u32 ((List.getD b3 (Int.toNat t78) 0) + (List.getD t77 (Int.toNat t78) 0)))))
        else
          none
      else
        none
    else
      none
  else
    some (b0_0, b0_1, b0_2, b1, b2, b3)
def f90.s2 (K : Nat) (rec : f90.Ty1 → Option (f90.Ty3)) (x : f90.Ty1) : Option (f90.Ty3) := f90.s2t K rec x.1 x.2.1 x.2.2.1 x.2.2.2.1 x.2.2.2.2.1 x.2.2.2.2.2.1 x.2.2.2.2.2.2.1 x.2.2.2.2.2.2.2
noncomputable def f90.s2.b : Code := (findLoop 2 f90.c).getD .skip
def f90.s2.h : Hint := { lv := [4, 5, 77, 78] }
def f90.s2.ho : Hint := { lv := [4, 5] }
def f90.s2.shp (x : f90.Ty1) : VS := ⟨[(4, .ptr 2 0), (5, .ptr 3 0), (77, .agg [.ints .u32 8 x.1]), (78, .int .i64 x.2.1)], [(0, ([.ptr 1 0, .ints .u8 64 x.2.2.1, .int .i64 x.2.2.2.1, .int .u64 x.2.2.2.2.1], 117, .norm)), (1, ([.ints .u32 8 x.2.2.2.2.2.1], 113, .norm)), (2, ([.ints .u32 8 x.2.2.2.2.2.2.1], 113, .norm)), (3, ([.ints .u32 8 x.2.2.2.2.2.2.2], 113, .norm))], 4⟩
def f90.s2.inX : VS → Option (f90.Ty1)
  | ⟨[(4, .ptr 2 0), (5, .ptr 3 0), (77, .agg [.ints .u32 8 t77]), (78, .int .i64 t78)], [(0, ([.ptr 1 0, .ints .u8 64 b0_0, .int .i64 b0_1, .int .u64 b0_2], 117, .norm)), (1, ([.ints .u32 8 b1], 113, .norm)), (2, ([.ints .u32 8 b2], 113, .norm)), (3, ([.ints .u32 8 b3], 113, .norm))], 4⟩ => some (t77, t78, b0_0, b0_1, b0_2, b1, b2, b3)
  | _ => none
def f90.s2.o0 (y : f90.Ty3) : VS := ⟨[(4, .ptr 2 0), (5, .ptr 3 0)], [(0, ([.ptr 1 0, .ints .u8 64 y.1, .int .i64 y.2.1, .int .u64 y.2.2.1], 117, .norm)), (1, ([.ints .u32 8 y.2.2.2.1], 113, .norm)), (2, ([.ints .u32 8 y.2.2.2.2.1], 113, .norm)), (3, ([.ints .u32 8 y.2.2.2.2.2], 113, .norm))], 4⟩
def f90.s2.des : ∀ α : Type, (f90.Ty3) → (Ex → VS → Option α) → Option α := (des1 (.exit 2) f90.s2.o0)
def f90.s2.out : f90.Ty3 → Ex × VS := (fun y => (.exit 2, f90.s2.o0 y))
theorem f90.s2.desOK : ∀ α y (k : Ex → VS → Option α), f90.s2.des α y k = k (f90.s2.out y).1 (f90.s2.out y).2 := (fun _ _ _ => rfl)
def f90.s2.inY : Ex → VS → Option (f90.Ty3)
  | .exit 2, ⟨[(4, .ptr 2 0), (5, .ptr 3 0)], [(0, ([.ptr 1 0, .ints .u8 64 b0_0, .int .i64 b0_1, .int .u64 b0_2], 117, .norm)), (1, ([.ints .u32 8 b1], 113, .norm)), (2, ([.ints .u32 8 b2], 113, .norm)), (3, ([.ints .u32 8 b3], 113, .norm))], 4⟩ => some (b0_0, b0_1, b0_2, b1, b2, b3)
  | _, _ => none
def f90.lp (K : Nat) : Nat → Option (Hint × Summ) := tabLp [(0, f90.s0.h, summOf (iter (f90.s0 K) K) f90.s0.inX f90.s0.des), (2, f90.s2.h, summOf (iter (f90.s2 K) K) f90.s2.inX f90.s2.des)]
noncomputable def f90.tab (K : Nat) : List (Nat × Entry) := [(100, (f100.E K)), (101, (f101.E K)), (102, (viewE [(1, .i64)] (f102.E K))), (105, (f105.E K))]
theorem f90.tabOK (K : Nat) : SpecOK Try.prog (tabSp (f90.tab K)) := tab_ok ((tab_cons (f100.ok K) (tab_cons (f101.ok K) (tab_cons (view_ok (f102.ok K)) (tab_cons (f105.ok K) tab_nil)))))
theorem f90.s0.eq (K : Nat) (rec : f90.Ty0 → Option (f90.Ty2)) (x : f90.Ty0) : f90.s0 K rec x = roundL (getA tys) (tabSp (f90.tab K)) 90 2 (f90.lp K) 400 f90.s0.b f90.s0.h f90.s0.ho f90.s0.shp f90.s0.inX f90.s0.inY rec x := by kernel_rfl
theorem f90.s0.lok (K : Nat) : LoopsOK Try.prog 90 2 (f90.lp K) f90.s0.b := loops_ok (by
  have h : loopsIn (f90.lp K) f90.s0.b = [] := by kernel_rfl
  rw [h]; simp)
theorem f90.s0.ok (K : Nat) : SummOK Try.prog 90 2 (summOf (iter (f90.s0 K) K) f90.s0.inX f90.s0.des) f90.s0.b :=
  loop_ok mix tys_ok (f90.tabOK K) (h := f90.s0.h) (ho := f90.s0.ho) (shp := f90.s0.shp) (inX := f90.s0.inX) (des := f90.s0.des) (out := f90.s0.out) (inY := f90.s0.inY) (fuel := 400)
    (by intro st x h; unfold f90.s0.inX at h; split at h <;> simp at h; subst h; rfl)
    (by intro e st y h; unfold f90.s0.inY at h; split at h <;> simp at h <;> subst h <;> rfl)
    f90.s0.desOK (f90.s0.lok K) (f90.s0 K) (f90.s0.eq K) K
theorem f90.s2.eq (K : Nat) (rec : f90.Ty1 → Option (f90.Ty3)) (x : f90.Ty1) : f90.s2 K rec x = roundL (getA tys) (tabSp (f90.tab K)) 90 2 (f90.lp K) 400 f90.s2.b f90.s2.h f90.s2.ho f90.s2.shp f90.s2.inX f90.s2.inY rec x := by kernel_rfl
theorem f90.s2.lok (K : Nat) : LoopsOK Try.prog 90 2 (f90.lp K) f90.s2.b := loops_ok (by
  have h : loopsIn (f90.lp K) f90.s2.b = [] := by kernel_rfl
  rw [h]; simp)
theorem f90.s2.ok (K : Nat) : SummOK Try.prog 90 2 (summOf (iter (f90.s2 K) K) f90.s2.inX f90.s2.des) f90.s2.b :=
  loop_ok mix tys_ok (f90.tabOK K) (h := f90.s2.h) (ho := f90.s2.ho) (shp := f90.s2.shp) (inX := f90.s2.inX) (des := f90.s2.des) (out := f90.s2.out) (inY := f90.s2.inY) (fuel := 400)
    (by intro st x h; unfold f90.s2.inX at h; split at h <;> simp at h; subst h; rfl)
    (by intro e st y h; unfold f90.s2.inY at h; split at h <;> simp at h <;> subst h <;> rfl)
    f90.s2.desOK (f90.s2.lok K) (f90.s2 K) (f90.s2.eq K) K
theorem f90.loops (K : Nat) : LoopsOK Try.prog 90 2 (f90.lp K) f90.c := loops_ok (by
  have h : loopsIn (f90.lp K) f90.c = [(0, f90.s0.b), (2, f90.s2.b)] := by kernel_rfl
  rw [h]
  intro p hp
  simp only [List.mem_cons, List.not_mem_nil, or_false] at hp
  rcases hp with rfl | rfl
  · exact ⟨_, rfl, (f90.s0.ok K)⟩
  · exact ⟨_, rfl, (f90.s2.ok K)⟩)
def f90.T (K : Nat) (a0 : List Int) (m0_0 : List Int) (m0_1 : Int) (m0_2 : Int) (m1 : List Int) : Option (f90.Ty4) :=
  (f100.F K (m0_0, m0_1, m0_2, m1)).bind fun y1 =>
  (f101.F K ()).bind fun y2 =>
  (iter (f90.s0 K) K (y2, 0, y1.1, y1.2.1, y1.2.2.1, y1.2.2.2.1, a0, [0, 0, 0, 0, 0, 0, 0, 0], a0, y1.2.2.2.2.1, y1.2.2.2.2.2)).bind fun y40 =>
  (iter (f90.s2 K) K (y40.2.2.2.2.1, 0, y40.1, y40.2.1, y40.2.2.1, y40.2.2.2.1, y40.2.2.2.2.2.1, y40.2.2.2.2.2.2)).bind fun y50 =>
  some (y50.2.2.2.2.2, y50.1, y50.2.1, y50.2.2.1, y50.2.2.2.1)
def f90.F (K : Nat) (x : f90.Ty4) : Option (f90.Ty4) := f90.T K x.1 x.2.1 x.2.2.1 x.2.2.2.1 x.2.2.2.2
def f90.av (x : f90.Ty4) : List VV := [.agg [.ints .u32 8 x.1], .ptr 0 1]
def f90.bl (x : f90.Ty4) : List (Nat × Blk) := [(0, ([.ptr 1 0, .ints .u8 64 x.2.1, .int .i64 x.2.2.1, .int .u64 x.2.2.2.1], 117, .norm)), (1, ([.ints .u32 8 x.2.2.2.2], 113, .norm))]
def f90.inA : VS → Option (f90.Ty4)
  | ⟨[(0, .agg [.ints .u32 8 a0]), (1, .ptr 0 1)], [(0, ([.ptr 1 0, .ints .u8 64 m0_0, .int .i64 m0_1, .int .u64 m0_2], 117, .norm)), (1, ([.ints .u32 8 m1], 113, .norm))], 2⟩ => some (a0, m0_0, m0_1, m0_2, m1)
  | _ => none
def f90.o0 (y : f90.Ty4) : VS := ⟨[(0, .agg [.ints .u32 8 y.1])], [(0, ([.ptr 1 0, .ints .u8 64 y.2.1, .int .i64 y.2.2.1, .int .u64 y.2.2.2.1], 117, .norm)), (1, ([.ints .u32 8 y.2.2.2.2], 113, .norm))], 2⟩
def f90.des : ∀ α : Type, (f90.Ty4) → (VS → Option α) → Option α := (dv1 f90.o0)
def f90.out : f90.Ty4 → VS := f90.o0
def f90.inR : VS → Option (f90.Ty4)
  | ⟨[(0, .agg [.ints .u32 8 y])], [(0, ([.ptr 1 0, .ints .u8 64 z0_0, .int .i64 z0_1, .int .u64 z0_2], 117, .norm)), (1, ([.ints .u32 8 z1], 113, .norm))], 2⟩ => some (y, z0_0, z0_1, z0_2, z1)
  | _ => none
noncomputable def f90.E (K : Nat) : Entry := genE 2 f90.inA (f90.F K) f90.des
theorem f90.eq (K : Nat) (x : f90.Ty4) : f90.F K x = xrun (getA tys) (tabSp (f90.tab K)) Try.f90.ntmps 2 (f90.lp K) 400 f90.c ⟨initL 0 (f90.av x), f90.bl x, 2⟩ (contF (getA tys) 2 Try.f90.results.toList f90.inR) := by kernel_rfl
theorem f90.ok (K : Nat) : EntryOK Try.prog 90 (f90.E K) :=
  gen_ok mix tys_ok (f90.tabOK K) Try.func90 (by kernel_rfl : Try.f90.body = some f90.c) (by kernel_rfl) (f90.loops K) (av := f90.av) (bl := f90.bl) (out := f90.out) (fuel := 400)
    (by intro s x h; unfold f90.inA at h; split at h <;> simp at h; subst h; rfl) (fun _ => Nat.le_of_ble_eq_true rfl)
    (by intro s y h; unfold f90.inR at h; split at h <;> simp at h <;> subst h <;> rfl) (fun _ _ _ => rfl) (f90.eq K)
end Go.Proofs

namespace Go.Proofs
open Go.VM
def Sh.rot (x u v : Int) : Int := bits .or .u32 (shiftI .shl .u32 x u) (shiftI .shr .u32 x v)
def Sh.downs (x : Int) (L : List Nat) : Int := L.foldl (fun a k => bits .xor .u32 a (Sh.rot x ((32 - k : Nat) : Int) (k : Int))) 0
theorem Sh.turn : ∀ k : Fin 32, 1 ≤ k.val → bits .and .u64 (IntKind.wrap .u64 (IntKind.wrap .i64 (0 - (k.val : Int)))) 31 = ((32 - k.val : Nat) : Int) ∧ IntKind.wrap .u64 (32 - ((32 - k.val : Nat) : Int)) = (k.val : Int) := by decide +kernel
theorem f106.spec (K : Nat) (x : Int) (k : Nat) (h1 : 1 ≤ k) (h2 : k ≤ 31) : f106.F K (x, IntKind.wrap .i64 (0 - (k : Int))) = some (Sh.rot x ((32 - k : Nat) : Int) (k : Int)) := by
  obtain ⟨e1, e2⟩ := Sh.turn ⟨k, by omega⟩ h1
  simp only [f106.F, f106.T]
  simp only [] at e1 e2
  rw [e1, e2, decide_eq_true (show (0 : Int) ≤ ((32 - k : Nat) : Int) by omega), cond_t, decide_eq_true (show (0 : Int) ≤ (k : Int) by omega), cond_t, Sh.rot]
theorem f102.spec (K : Nat) (x : Int) (L : List Nat) (n : Nat) (hn : L.length = n) (h : ∀ k ∈ L, 1 ≤ k ∧ k ≤ 31) (hK : n < K) (hs : n < 1000000) :
    f102.F K (x, n, n, L.map fun k : Nat => (k : Int)) = some (Sh.downs x L, n, L.map fun k : Nat => (k : Int)) := by
  have := iter_for (stp := f102.s0 K) (N := n) (fun i => (x, Sh.downs x (L.take i), n, ((n : Nat) : Int), (i : Int), n, L.map fun k : Nat => (k : Int))) (y := some (Sh.downs x L, n, L.map fun k : Nat => (k : Int))) ?_ ?_ hK
  · simp only [f102.F, f102.T]
    rw [show iter (f102.s0 K) K (x, 0, n, ((n : Nat) : Int), 0, n, L.map fun k : Nat => (k : Int)) = _ from this, bind_s]
  · intro i hi rec
    simp only [f102.s0, f102.s0t]
    have hm : i < L.length := by omega
    have hg : List.getD (L.map fun k : Nat => (k : Int)) i 0 = ((L[i] : Nat) : Int) := by simp [List.getD_eq_getElem?_getD, hm]
    obtain ⟨h1, h2⟩ := h L[i] (List.getElem_mem hm)
    rw [decide_eq_true (show (i : Int) < ((n : Nat) : Int) by omega), cond_t, decide_eq_true (show (0 : Int) ≤ (i : Int) ∧ (i : Int) < ((n : Nat) : Int) by omega), cond_t, Int.toNat_natCast, Nat.zero_add, show Nat.blt i n = true from by simp [Nat.blt_eq]; omega, cond_t, hg, f106.spec K x _ h1 h2, bind_s, wrap_i _ (by omega) (by omega)]
    have e : L.take (i + 1) = L.take i ++ [L[i]] := by rw [List.take_add_one, List.getElem?_eq_getElem hm]; rfl
    rw [e, Sh.downs, Sh.downs, List.foldl_append]
    rfl
  · intro rec
    simp only [f102.s0, f102.s0t]
    rw [decide_eq_false (show ¬ ((n : Nat) : Int) < ((n : Nat) : Int) by omega), cond_f, List.take_of_length_le (by omega)]
def Sh.sched (w b : List Int) (t : Nat) : List Int :=
  if t < 16 then setD w (t % 16) (IntKind.wrap .u32 ((tv (subI b (4 * t) 4) : Nat) : Int))
  else
    let x := List.getD w ((t + 1) % 16) 0
    let y := List.getD w ((t + 14) % 16) 0
    let w1 := setD w (t % 16) (IntKind.wrap .u32 ((List.getD w (t % 16) 0) + (bits .xor .u32 (Sh.downs x [7, 18]) (Int.fdiv x (2 ^ 3)))))
    let w2 := setD w1 (t % 16) (IntKind.wrap .u32 ((List.getD w1 (t % 16) 0) + (bits .xor .u32 (Sh.downs y [17, 19]) (Int.fdiv y (2 ^ 10)))))
    setD w2 (t % 16) (IntKind.wrap .u32 ((List.getD w2 (t % 16) 0) + (List.getD w2 ((t + 9) % 16) 0)))
theorem f105.spec (K t : Nat) (w b s : List Int) (hd mn : Int) (ht : t < 64) (ho : octets b) (hK : 8 < K) :
    f105.F K (w, (t : Int), b, hd, mn, s) = some (List.getD (Sh.sched w b t) (t % 16) 0, Sh.sched w b t, ((t + 1 : Nat) : Int), b, hd, mn, s) := by
  simp only [f105.F, f105.T]
  have m0 : Int.tmod (t : Int) 16 = ((t % 16 : Nat) : Int) := tmod_nat t 16
  have m1 : ∀ k : Nat, k < 100 → Int.tmod (IntKind.wrap .i64 ((t : Int) + (k : Int))) 16 = (((t + k) % 16 : Nat) : Int) := fun k hk => by
    rw [wrap_i _ (by omega) (by omega), show ((t : Int) + (k : Int)) = ((t + k : Nat) : Int) by omega]; exact tmod_nat (t + k) 16
  have m2 : ∀ k : Nat, decide ((0 : Int) ≤ ((k % 16 : Nat) : Int) ∧ ((k % 16 : Nat) : Int) < 16) = true := fun k => decide_eq_true (by omega)
  have e1 : Int.tmod (IntKind.wrap .i64 ((t : Int) + 1)) 16 = (((t + 1) % 16 : Nat) : Int) := m1 1 (by omega)
  have e14 : Int.tmod (IntKind.wrap .i64 ((t : Int) + 14)) 16 = (((t + 14) % 16 : Nat) : Int) := m1 14 (by omega)
  have e9 : Int.tmod (IntKind.wrap .i64 ((t : Int) + 9)) 16 = (((t + 9) % 16 : Nat) : Int) := m1 9 (by omega)
  have et : IntKind.wrap .i64 ((t : Int) + 1) = ((t + 1 : Nat) : Int) := by rw [wrap_i _ (by omega) (by omega)]; omega
  rw [m0, m2, cond_t]
  rcases Nat.lt_or_ge t 16 with h | h
  · rw [decide_eq_true (show (t : Int) < 16 by omega), cond_t]
    have e4 : IntKind.wrap .i64 (4 * (t : Int)) = ((4 * t : Nat) : Int) := by rw [wrap_i _ (by omega) (by omega)]; omega
    have e6 : (bif Nat.beq 64 (4 * t) then 0 else 4 * t) = 4 * t := by
      rw [show Nat.beq 64 (4 * t) = false from (by rw [← Bool.not_eq_true, Nat.beq_eq]; omega), cond_f]
    have es := f61.spec K (64 - 4 * t) 4 (subI b (4 * t) (64 - 4 * t)) (subI_length _ _ _) (octets_sub ho _ _) (by omega) (by omega) (by omega) hK
    have ek : (subI b (4 * t) (64 - 4 * t)).take 4 = subI b (4 * t) 4 := by
      rw [subI, subI, ← List.map_take, List.take_range, Nat.min_eq_left (by omega)]
    rw [ek] at es
    rw [e4, decide_eq_true (show (0 : Int) ≤ ((4 * t : Nat) : Int) ∧ ((4 * t : Nat) : Int) ≤ 64 by omega), cond_t]
    simp only [Int.toNat_natCast]
    rw [e6, ble_true (show 4 * t + (64 - 4 * t) ≤ 64 by omega), ble_true (Nat.le_refl (64 - 4 * t)), Bool.and_self, Bool.and_self, cond_t, show ((4 : Int)) = ((4 : Nat) : Int) from rfl, es, bind_s, et]
    simp only [Sh.sched, if_pos h]
  · rw [decide_eq_false (show ¬ (t : Int) < 16 by omega), cond_f, e1, m2, cond_t, e14, m2, cond_t]
    simp only [Int.toNat_natCast]
    have d1 := f102.spec K (List.getD w ((t + 1) % 16) 0) [7, 18] 2 rfl (by decide) (by omega) (by omega)
    have d2 := f102.spec K (List.getD w ((t + 14) % 16) 0) [17, 19] 2 rfl (by decide) (by omega) (by omega)
    simp only [List.map_cons, List.map_nil] at d1 d2
    rw [show ((7 : Int)) = ((7 : Nat) : Int) from rfl, show ((18 : Int)) = ((18 : Nat) : Int) from rfl, d1, bind_s, show ((17 : Int)) = ((17 : Nat) : Int) from rfl, show ((19 : Int)) = ((19 : Nat) : Int) from rfl, d2, bind_s, e9, m2, cond_t, et]
    simp only [Sh.sched, if_neg (show ¬ t < 16 by omega), Int.toNat_natCast]
def Sh.consts : List Int := [1116352408, 1899447441, 3049323471, 3921009573, 961987163, 1508970993, 2453635748, 2870763221, 3624381080, 310598401, 607225278, 1426881987, 1925078388, 2162078206, 2614888103, 3248222580, 3835390401, 4022224774, 264347078, 604807628, 770255983, 1249150122, 1555081692, 1996064986, 2554220882, 2821834349, 2952996808, 3210313671, 3336571891, 3584528711, 113926993, 338241895, 666307205, 773529912, 1294757372, 1396182291, 1695183700, 1986661051, 2177026350, 2456956037, 2730485921, 2820302411, 3259730800, 3345764771, 3516065817, 3600352804, 4094571909, 275423344, 430227734, 506948616, 659060556, 883997877, 958139571, 1322822218, 1537002063, 1747873779, 1955562222, 2024104815, 2227730452, 2361852424, 2428436474, 2756734187, 3204031479, 3329325298]
def Sh.step (b : List Int) (t : Nat) (vw : List Int × List Int) : List Int × List Int :=
  let v := vw.1
  let w := Sh.sched vw.2 b t
  let t1 := IntKind.wrap .u32 ((IntKind.wrap .u32 ((IntKind.wrap .u32 ((IntKind.wrap .u32 ((List.getD v 7 0) + Sh.downs (List.getD v 4 0) [6, 11, 25])) + (bits .or .u32 (bits .and .u32 (List.getD v 4 0) (List.getD v 5 0)) (bits .and .u32 (bits .xor .u32 4294967295 (List.getD v 4 0)) (List.getD v 6 0))))) + (List.getD Sh.consts t 0))) + List.getD w (t % 16) 0)
  let v33 := spl v 1 7 (subI v 0 7)
  (setD (setD v33 4 (IntKind.wrap .u32 ((List.getD v33 4 0) + t1))) 0 (IntKind.wrap .u32 (t1 + (IntKind.wrap .u32 (Sh.downs (List.getD v 0 0) [2, 13, 22] + (bits .xor .u32 (bits .and .u32 (List.getD v 0 0) (bits .xor .u32 (List.getD v 1 0) (List.getD v 2 0))) (bits .and .u32 (List.getD v 1 0) (List.getD v 2 0))))))), w)
def Sh.rounds (s b : List Int) : Nat → List Int × List Int
  | 0 => (s, [0, 0, 0, 0, 0, 0, 0, 0, 0, 0, 0, 0, 0, 0, 0, 0])
  | t + 1 => Sh.step b t (Sh.rounds s b t)
def Sh.added (v s : List Int) : Nat → List Int
  | 0 => s
  | i + 1 => setD (Sh.added v s i) i (IntKind.wrap .u32 (List.getD (Sh.added v s i) i 0 + List.getD v i 0))
def Sh.comp (s b : List Int) : List Int := Sh.added s (Sh.rounds s b 64).1 8
theorem f90.rounds (K : Nat) (s b : List Int) (hd mn : Int) (ho : octets b) (hK : 64 < K) (z : List Int) :
    iter (f90.s0 K) K (Sh.consts, 0, b, hd, mn, s, s, z, s, [0, 0, 0, 0, 0, 0, 0, 0, 0, 0, 0, 0, 0, 0, 0, 0], 0) = some (b, hd, mn, s, s, z, (Sh.rounds s b 64).1) := by
  have := iter_for (stp := f90.s0 K) (N := 64) (fun i => (Sh.consts, (i : Int), b, hd, mn, s, s, z, (Sh.rounds s b i).1, (Sh.rounds s b i).2, (i : Int))) (y := some (b, hd, mn, s, s, z, (Sh.rounds s b 64).1)) ?_ ?_ hK
  · exact this
  · intro i hi rec
    simp only [f90.s0, f90.s0t]
    have d1 := f102.spec K (List.getD (Sh.rounds s b i).1 4 0) [6, 11, 25] 3 rfl (by decide) (by omega) (by omega)
    have d2 := f102.spec K (List.getD (Sh.rounds s b i).1 0 0) [2, 13, 22] 3 rfl (by decide) (by omega) (by omega)
    simp only [List.map_cons, List.map_nil] at d1 d2
    rw [decide_eq_true (show (i : Int) < 64 by omega), cond_t, decide_eq_true (show (0 : Int) ≤ (i : Int) ∧ (i : Int) < 64 by omega), cond_t]
    rw [show ((6 : Int)) = ((6 : Nat) : Int) from rfl, show ((11 : Int)) = ((11 : Nat) : Int) from rfl, show ((25 : Int)) = ((25 : Nat) : Int) from rfl, d1, bind_s, f105.spec K i _ b s hd mn hi ho (by omega), bind_s]
    rw [show ((2 : Int)) = ((2 : Nat) : Int) from rfl, show ((13 : Int)) = ((13 : Nat) : Int) from rfl, show ((22 : Int)) = ((22 : Nat) : Int) from rfl, d2, bind_s, wrap_i _ (by omega) (by omega)]
    rfl
  · intro rec
    simp only [f90.s0, f90.s0t]
    rfl
theorem f90.sums (K : Nat) (s v b : List Int) (hd mn : Int) (a1 a2 : List Int) (hK : 8 < K) :
    iter (f90.s2 K) K (v, 0, b, hd, mn, a1, a2, s) = some (b, hd, mn, a1, a2, Sh.added v s 8) := by
  have := iter_for (stp := f90.s2 K) (N := 8) (fun i => (v, (i : Int), b, hd, mn, a1, a2, Sh.added v s i)) (y := some (b, hd, mn, a1, a2, Sh.added v s 8)) ?_ ?_ hK
  · exact this
  · intro i hi rec
    simp only [f90.s2, f90.s2t]
    rw [decide_eq_true (show (i : Int) < 8 by omega), cond_t, decide_eq_true (show (0 : Int) ≤ (i : Int) ∧ (i : Int) < 8 by omega), cond_t, cond_t, cond_t, Int.toNat_natCast, wrap_i _ (by omega) (by omega)]
    rfl
  · intro rec
    simp only [f90.s2, f90.s2t]
    rfl
theorem f90.spec (K : Nat) (s b : List Int) (hd mn : Int) (ho : octets b) (hK : 64 < K) : f90.F K (s, b, hd, mn, s) = some (Sh.comp s b, b, hd, mn, s) := by
  simp only [f90.F, f90.T]
  rw [show f100.F K (b, hd, mn, s) = some (b, hd, mn, s, [0, 0, 0, 0, 0, 0, 0, 0, 0, 0, 0, 0, 0, 0, 0, 0], 0) from rfl, bind_s, show f101.F K () = some Sh.consts from rfl, bind_s]
  simp only []
  rw [f90.rounds K s b hd mn ho hK, bind_s]
  simp only []
  rw [f90.sums K _ s b hd mn s [0, 0, 0, 0, 0, 0, 0, 0] (by omega), bind_s]
  rfl
end Go.Proofs

namespace Go.Proofs
open Go.VM
abbrev f57v2.Ty0 := Nat × Nat × List Int × Int × Int × Nat × Nat × Nat × List Int × Nat × List Int × List Int
abbrev f57v2.Ty1 := List Int × Int × Int × Nat × Nat × Nat × List Int × Nat × List Int × List Int
abbrev f57v2.Ty2 := List Int × Int × Int × Nat × Nat × List Int × Nat × List Int × Nat × List Int
noncomputable def f57v2.c : Code := bodyOf Try.f57
def f57v2.s2t (K : Nat) (rec : f57v2.Ty0 → Option (f57v2.Ty1)) (t5_0 : Nat) (t5_1 : Nat) (b0_0 : List Int) (b0_1 : Int) (b0_2 : Int) (b1_0 : Nat) (b1_1 : Nat) (b4_0 : Nat) (b4_1 : List Int) (b6_0 : Nat) (b6_1 : List Int) (b9 : List Int) : Option (f57v2.Ty1) :=
  bif (decide (((t5_1 : Nat) : Int) > 0)) then
    bif decide (0 ≤ b0_1 ∧ b0_1 ≤ 64) then
      let v6 := bif Nat.beq 64 (Int.toNat b0_1) then 0 else (Int.toNat b0_1)
      let v7 := 64 - (Int.toNat b0_1)
      bif (((Nat.ble (t5_0 + t5_1) b4_0 && true) && (Nat.ble (v6 + v7) 64)) && (Nat.beq t5_1 t5_1)) then
        let v9 := ((Nat.min t5_1 v7 : Nat) : Int)
        let v10 := spl b0_0 v6 (Nat.min t5_1 v7) (subI b4_1 t5_0 t5_1)
        bif decide (0 ≤ v9 ∧ v9 ≤ ((t5_1 : Nat) : Int)) then
          let v11 := t5_0 + (Int.toNat v9)
          let v12 := t5_1 - (Int.toNat v9)
          let v13 := IntKind.wrap .i64 (b0_1 + v9)
          bif (v13 == 64) then
            (f90.F K (b9, v10, v13, b0_2, b9)).bind fun y14 =>
            rec (v11, v12, y14.2.1, 0, y14.2.2.2.1, b1_0, b1_1, b4_0, b4_1, b6_0, b6_1, y14.1)
          else
            rec (v11, v12, v10, v13, b0_2, b1_0, b1_1, b4_0, b4_1, b6_0, b6_1, b9)
        else
          none
      else
        none
    else
      none
  else
    some (b0_0, b0_1, b0_2, b1_0, b1_1, b4_0, b4_1, b6_0, b6_1, b9)
def f57v2.s2 (K : Nat) (rec : f57v2.Ty0 → Option (f57v2.Ty1)) (x : f57v2.Ty0) : Option (f57v2.Ty1) := f57v2.s2t K rec x.1 x.2.1 x.2.2.1 x.2.2.2.1 x.2.2.2.2.1 x.2.2.2.2.2.1 x.2.2.2.2.2.2.1 x.2.2.2.2.2.2.2.1 x.2.2.2.2.2.2.2.2.1 x.2.2.2.2.2.2.2.2.2.1 x.2.2.2.2.2.2.2.2.2.2.1 x.2.2.2.2.2.2.2.2.2.2.2
noncomputable def f57v2.s2.b : Code := (findLoop 2 f57v2.c).getD .skip
def f57v2.s2.h : Hint := { lv := [0, 5, 8, 9, 10], co := [(5, 0, [])], mv := [3] }
def f57v2.s2.ho : Hint := { lv := [0, 8, 9, 10] }
def f57v2.s2.shp (x : f57v2.Ty0) : VS := ⟨[(0, .ptr 0 0), (5, .vw true 4 x.1 x.2.1 8), (8, .vw true 1 0 2 2), (9, .int .i64 2), (10, .int .i64 0)], [(0, ([.ptr 9 0, .ints .u8 64 x.2.2.1, .int .i64 x.2.2.2.1, .int .u64 x.2.2.2.2.1], 117, .norm)), (1, ([.vw true 4 0 x.2.2.2.2.2.1 5, .vw true 6 0 x.2.2.2.2.2.2.1 7], 0, .ro)), (3, ([], 113, .dead)), (4, ([.ints .u8 x.2.2.2.2.2.2.2.1 x.2.2.2.2.2.2.2.2.1], 0, .ro)), (6, ([.ints .u8 x.2.2.2.2.2.2.2.2.2.1 x.2.2.2.2.2.2.2.2.2.2.1], 0, .ro)), (9, ([.ints .u32 8 x.2.2.2.2.2.2.2.2.2.2.2], 113, .norm))], 10⟩
def f57v2.s2.inX : VS → Option (f57v2.Ty0)
  | ⟨[(0, .ptr 0 0), (5, .vw true 4 t5_0 t5_1 8), (8, .vw true 1 0 2 2), (9, .int .i64 2), (10, .int .i64 0)], [(0, ([.ptr 9 0, .ints .u8 64 b0_0, .int .i64 b0_1, .int .u64 b0_2], 117, .norm)), (1, ([.vw true 4 0 b1_0 5, .vw true 6 0 b1_1 7], 0, .ro)), (3, ([], 113, .dead)), (4, ([.ints .u8 b4_0 b4_1], 0, .ro)), (6, ([.ints .u8 b6_0 b6_1], 0, .ro)), (9, ([.ints .u32 8 b9], 113, .norm))], 10⟩ => some (t5_0, t5_1, b0_0, b0_1, b0_2, b1_0, b1_1, b4_0, b4_1, b6_0, b6_1, b9)
  | _ => none
def f57v2.s2.o0 (y : f57v2.Ty1) : VS := ⟨[(0, .ptr 0 0), (8, .vw true 1 0 2 2), (9, .int .i64 2), (10, .int .i64 0)], [(0, ([.ptr 8 0, .ints .u8 64 y.1, .int .i64 y.2.1, .int .u64 y.2.2.1], 117, .norm)), (1, ([.vw true 4 0 y.2.2.2.1 5, .vw true 6 0 y.2.2.2.2.1 7], 0, .ro)), (3, ([], 113, .dead)), (4, ([.ints .u8 y.2.2.2.2.2.1 y.2.2.2.2.2.2.1], 0, .ro)), (6, ([.ints .u8 y.2.2.2.2.2.2.2.1 y.2.2.2.2.2.2.2.2.1], 0, .ro)), (8, ([.ints .u32 8 y.2.2.2.2.2.2.2.2.2], 113, .norm))], 9⟩
def f57v2.s2.des : ∀ α : Type, (f57v2.Ty1) → (Ex → VS → Option α) → Option α := (des1 (.exit 2) f57v2.s2.o0)
def f57v2.s2.out : f57v2.Ty1 → Ex × VS := (fun y => (.exit 2, f57v2.s2.o0 y))
theorem f57v2.s2.desOK : ∀ α y (k : Ex → VS → Option α), f57v2.s2.des α y k = k (f57v2.s2.out y).1 (f57v2.s2.out y).2 := (fun _ _ _ => rfl)
def f57v2.s2.inY : Ex → VS → Option (f57v2.Ty1)
  | .exit 2, ⟨[(0, .ptr 0 0), (8, .vw true 1 0 2 2), (9, .int .i64 2), (10, .int .i64 0)], [(0, ([.ptr 8 0, .ints .u8 64 b0_0, .int .i64 b0_1, .int .u64 b0_2], 117, .norm)), (1, ([.vw true 4 0 b1_0 5, .vw true 6 0 b1_1 7], 0, .ro)), (3, ([], 113, .dead)), (4, ([.ints .u8 b4_0 b4_1], 0, .ro)), (6, ([.ints .u8 b6_0 b6_1], 0, .ro)), (8, ([.ints .u32 8 b8], 113, .norm))], 9⟩ => some (b0_0, b0_1, b0_2, b1_0, b1_1, b4_0, b4_1, b6_0, b6_1, b8)
  | _, _ => none
def f57v2.s2bt (K : Nat) (rec : f57v2.Ty0 → Option (f57v2.Ty1)) (t5_0 : Nat) (t5_1 : Nat) (b0_0 : List Int) (b0_1 : Int) (b0_2 : Int) (b1_0 : Nat) (b1_1 : Nat) (b4_0 : Nat) (b4_1 : List Int) (b6_0 : Nat) (b6_1 : List Int) (b9 : List Int) : Option (f57v2.Ty1) :=
  bif (decide (((t5_1 : Nat) : Int) > 0)) then
    bif decide (0 ≤ b0_1 ∧ b0_1 ≤ 64) then
      let v22 := bif Nat.beq 64 (Int.toNat b0_1) then 0 else (Int.toNat b0_1)
      let v23 := 64 - (Int.toNat b0_1)
      bif (((Nat.ble (t5_0 + t5_1) b6_0 && true) && (Nat.ble (v22 + v23) 64)) && (Nat.beq t5_1 t5_1)) then
        let v25 := ((Nat.min t5_1 v23 : Nat) : Int)
        let v26 := spl b0_0 v22 (Nat.min t5_1 v23) (subI b6_1 t5_0 t5_1)
        bif decide (0 ≤ v25 ∧ v25 ≤ ((t5_1 : Nat) : Int)) then
          let v27 := t5_0 + (Int.toNat v25)
          let v28 := t5_1 - (Int.toNat v25)
          let v29 := IntKind.wrap .i64 (b0_1 + v25)
          bif (v29 == 64) then
            (f90.F K (b9, v26, v29, b0_2, b9)).bind fun y30 =>
            rec (v27, v28, y30.2.1, 0, y30.2.2.2.1, b1_0, b1_1, b4_0, b4_1, b6_0, b6_1, y30.1)
          else
            rec (v27, v28, v26, v29, b0_2, b1_0, b1_1, b4_0, b4_1, b6_0, b6_1, b9)
        else
          none
      else
        none
    else
      none
  else
    some (b0_0, b0_1, b0_2, b1_0, b1_1, b4_0, b4_1, b6_0, b6_1, b9)
def f57v2.s2b (K : Nat) (rec : f57v2.Ty0 → Option (f57v2.Ty1)) (x : f57v2.Ty0) : Option (f57v2.Ty1) := f57v2.s2bt K rec x.1 x.2.1 x.2.2.1 x.2.2.2.1 x.2.2.2.2.1 x.2.2.2.2.2.1 x.2.2.2.2.2.2.1 x.2.2.2.2.2.2.2.1 x.2.2.2.2.2.2.2.2.1 x.2.2.2.2.2.2.2.2.2.1 x.2.2.2.2.2.2.2.2.2.2.1 x.2.2.2.2.2.2.2.2.2.2.2
noncomputable def f57v2.s2b.b : Code := (findLoop 2 f57v2.c).getD .skip
def f57v2.s2b.h : Hint := { lv := [0, 5, 8, 9, 10], co := [(5, 0, [])], mv := [3] }
def f57v2.s2b.ho : Hint := { lv := [0, 8, 9, 10] }
def f57v2.s2b.shp (x : f57v2.Ty0) : VS := ⟨[(0, .ptr 0 0), (5, .vw true 6 x.1 x.2.1 8), (8, .vw true 1 0 2 2), (9, .int .i64 2), (10, .int .i64 1)], [(0, ([.ptr 9 0, .ints .u8 64 x.2.2.1, .int .i64 x.2.2.2.1, .int .u64 x.2.2.2.2.1], 117, .norm)), (1, ([.vw true 4 0 x.2.2.2.2.2.1 5, .vw true 6 0 x.2.2.2.2.2.2.1 7], 0, .ro)), (3, ([], 113, .dead)), (4, ([.ints .u8 x.2.2.2.2.2.2.2.1 x.2.2.2.2.2.2.2.2.1], 0, .ro)), (6, ([.ints .u8 x.2.2.2.2.2.2.2.2.2.1 x.2.2.2.2.2.2.2.2.2.2.1], 0, .ro)), (9, ([.ints .u32 8 x.2.2.2.2.2.2.2.2.2.2.2], 113, .norm))], 10⟩
def f57v2.s2b.inX : VS → Option (f57v2.Ty0)
  | ⟨[(0, .ptr 0 0), (5, .vw true 6 t5_0 t5_1 8), (8, .vw true 1 0 2 2), (9, .int .i64 2), (10, .int .i64 1)], [(0, ([.ptr 9 0, .ints .u8 64 b0_0, .int .i64 b0_1, .int .u64 b0_2], 117, .norm)), (1, ([.vw true 4 0 b1_0 5, .vw true 6 0 b1_1 7], 0, .ro)), (3, ([], 113, .dead)), (4, ([.ints .u8 b4_0 b4_1], 0, .ro)), (6, ([.ints .u8 b6_0 b6_1], 0, .ro)), (9, ([.ints .u32 8 b9], 113, .norm))], 10⟩ => some (t5_0, t5_1, b0_0, b0_1, b0_2, b1_0, b1_1, b4_0, b4_1, b6_0, b6_1, b9)
  | _ => none
def f57v2.s2b.o0 (y : f57v2.Ty1) : VS := ⟨[(0, .ptr 0 0), (8, .vw true 1 0 2 2), (9, .int .i64 2), (10, .int .i64 1)], [(0, ([.ptr 8 0, .ints .u8 64 y.1, .int .i64 y.2.1, .int .u64 y.2.2.1], 117, .norm)), (1, ([.vw true 4 0 y.2.2.2.1 5, .vw true 6 0 y.2.2.2.2.1 7], 0, .ro)), (3, ([], 113, .dead)), (4, ([.ints .u8 y.2.2.2.2.2.1 y.2.2.2.2.2.2.1], 0, .ro)), (6, ([.ints .u8 y.2.2.2.2.2.2.2.1 y.2.2.2.2.2.2.2.2.1], 0, .ro)), (8, ([.ints .u32 8 y.2.2.2.2.2.2.2.2.2], 113, .norm))], 9⟩
def f57v2.s2b.des : ∀ α : Type, (f57v2.Ty1) → (Ex → VS → Option α) → Option α := (des1 (.exit 2) f57v2.s2b.o0)
def f57v2.s2b.out : f57v2.Ty1 → Ex × VS := (fun y => (.exit 2, f57v2.s2b.o0 y))
theorem f57v2.s2b.desOK : ∀ α y (k : Ex → VS → Option α), f57v2.s2b.des α y k = k (f57v2.s2b.out y).1 (f57v2.s2b.out y).2 := (fun _ _ _ => rfl)
def f57v2.s2b.inY : Ex → VS → Option (f57v2.Ty1)
  | .exit 2, ⟨[(0, .ptr 0 0), (8, .vw true 1 0 2 2), (9, .int .i64 2), (10, .int .i64 1)], [(0, ([.ptr 8 0, .ints .u8 64 b0_0, .int .i64 b0_1, .int .u64 b0_2], 117, .norm)), (1, ([.vw true 4 0 b1_0 5, .vw true 6 0 b1_1 7], 0, .ro)), (3, ([], 113, .dead)), (4, ([.ints .u8 b4_0 b4_1], 0, .ro)), (6, ([.ints .u8 b6_0 b6_1], 0, .ro)), (8, ([.ints .u32 8 b8], 113, .norm))], 9⟩ => some (b0_0, b0_1, b0_2, b1_0, b1_1, b4_0, b4_1, b6_0, b6_1, b8)
  | _, _ => none
def f57v2.lp (K : Nat) : Nat → Option (Hint × Summ) := tabLp [(2, f57v2.s2.h, summOr f57v2.s2.inX (summOf (iter (f57v2.s2 K) K) f57v2.s2.inX f57v2.s2.des) (summOf (iter (f57v2.s2b K) K) f57v2.s2b.inX f57v2.s2b.des))]
noncomputable def f57v2.tab (K : Nat) : List (Nat × Entry) := [(90, (f90.E K))]
theorem f57v2.tabOK (K : Nat) : SpecOK Try.prog (tabSp (f57v2.tab K)) := tab_ok ((tab_cons (f90.ok K) tab_nil))
theorem f57v2.s2.eq (K : Nat) (rec : f57v2.Ty0 → Option (f57v2.Ty1)) (x : f57v2.Ty0) : f57v2.s2 K rec x = roundL (getA tys) (tabSp (f57v2.tab K)) 76 8 (f57v2.lp K) 400 f57v2.s2.b f57v2.s2.h f57v2.s2.ho f57v2.s2.shp f57v2.s2.inX f57v2.s2.inY rec x := by kernel_rfl
theorem f57v2.s2.lok (K : Nat) : LoopsOK Try.prog 76 8 (f57v2.lp K) f57v2.s2.b := loops_ok (by
  have h : loopsIn (f57v2.lp K) f57v2.s2.b = [] := by kernel_rfl
  rw [h]; simp)
theorem f57v2.s2.ok (K : Nat) : SummOK Try.prog 76 8 (summOf (iter (f57v2.s2 K) K) f57v2.s2.inX f57v2.s2.des) f57v2.s2.b :=
  loop_ok mix tys_ok (f57v2.tabOK K) (h := f57v2.s2.h) (ho := f57v2.s2.ho) (shp := f57v2.s2.shp) (inX := f57v2.s2.inX) (des := f57v2.s2.des) (out := f57v2.s2.out) (inY := f57v2.s2.inY) (fuel := 400)
    (by intro st x h; unfold f57v2.s2.inX at h; split at h <;> simp at h; subst h; rfl)
    (by intro e st y h; unfold f57v2.s2.inY at h; split at h <;> simp at h <;> subst h <;> rfl)
    f57v2.s2.desOK (f57v2.s2.lok K) (f57v2.s2 K) (f57v2.s2.eq K) K
theorem f57v2.s2b.eq (K : Nat) (rec : f57v2.Ty0 → Option (f57v2.Ty1)) (x : f57v2.Ty0) : f57v2.s2b K rec x = roundL (getA tys) (tabSp (f57v2.tab K)) 76 8 (f57v2.lp K) 400 f57v2.s2b.b f57v2.s2b.h f57v2.s2b.ho f57v2.s2b.shp f57v2.s2b.inX f57v2.s2b.inY rec x := by kernel_rfl
theorem f57v2.s2b.lok (K : Nat) : LoopsOK Try.prog 76 8 (f57v2.lp K) f57v2.s2b.b := loops_ok (by
  have h : loopsIn (f57v2.lp K) f57v2.s2b.b = [] := by kernel_rfl
  rw [h]; simp)
theorem f57v2.s2b.ok (K : Nat) : SummOK Try.prog 76 8 (summOf (iter (f57v2.s2b K) K) f57v2.s2b.inX f57v2.s2b.des) f57v2.s2b.b :=
  loop_ok mix tys_ok (f57v2.tabOK K) (h := f57v2.s2b.h) (ho := f57v2.s2b.ho) (shp := f57v2.s2b.shp) (inX := f57v2.s2b.inX) (des := f57v2.s2b.des) (out := f57v2.s2b.out) (inY := f57v2.s2b.inY) (fuel := 400)
    (by intro st x h; unfold f57v2.s2b.inX at h; split at h <;> simp at h; subst h; rfl)
    (by intro e st y h; unfold f57v2.s2b.inY at h; split at h <;> simp at h <;> subst h <;> rfl)
    f57v2.s2b.desOK (f57v2.s2b.lok K) (f57v2.s2b K) (f57v2.s2b.eq K) K
theorem f57v2.loops (K : Nat) : LoopsOK Try.prog 76 8 (f57v2.lp K) f57v2.c := loops_ok (by
  have h : loopsIn (f57v2.lp K) f57v2.c = [(2, f57v2.s2.b)] := by kernel_rfl
  rw [h]
  intro p hp
  simp only [List.mem_cons, List.not_mem_nil, or_false] at hp
  rcases hp with rfl
  · exact ⟨_, rfl, (summOr_ok (f57v2.s2.ok K) (f57v2.s2b.ok K))⟩)
def f57v2.T (K : Nat) (m0_0 : List Int) (m0_1 : Int) (m0_2 : Int) (m1_0 : Nat) (m1_1 : Nat) (m3 : List Int) (m4_0 : Nat) (m4_1 : List Int) (m6_0 : Nat) (m6_1 : List Int) : Option (f57v2.Ty1) :=
  (iter (f57v2.s2 K) K (0, m1_0, m0_0, m0_1, (IntKind.wrap .u64 (m0_2 + (IntKind.wrap .u64 ((m1_0 : Nat) : Int)))), m1_0, m1_1, m4_0, m4_1, m6_0, m6_1, m3)).bind fun y15 =>
  let v16 := y15.2.2.2.2.1
  (iter (f57v2.s2b K) K (0, v16, y15.1, y15.2.1, (IntKind.wrap .u64 (y15.2.2.1 + (IntKind.wrap .u64 ((v16 : Nat) : Int)))), y15.2.2.2.1, y15.2.2.2.2.1, y15.2.2.2.2.2.1, y15.2.2.2.2.2.2.1, y15.2.2.2.2.2.2.2.1, y15.2.2.2.2.2.2.2.2.1, y15.2.2.2.2.2.2.2.2.2)).bind fun y31 =>
  some (y31.1, y31.2.1, y31.2.2.1, y31.2.2.2.1, y31.2.2.2.2.1, y31.2.2.2.2.2.1, y31.2.2.2.2.2.2.1, y31.2.2.2.2.2.2.2.1, y31.2.2.2.2.2.2.2.2.1, y31.2.2.2.2.2.2.2.2.2)
def f57v2.F (K : Nat) (x : f57v2.Ty2) : Option (f57v2.Ty1) := f57v2.T K x.1 x.2.1 x.2.2.1 x.2.2.2.1 x.2.2.2.2.1 x.2.2.2.2.2.1 x.2.2.2.2.2.2.1 x.2.2.2.2.2.2.2.1 x.2.2.2.2.2.2.2.2.1 x.2.2.2.2.2.2.2.2.2
def f57v2.av (_x : f57v2.Ty2) : List VV := [.ptr 0 0, .vw true 1 0 2 2]
def f57v2.bl (x : f57v2.Ty2) : List (Nat × Blk) := [(0, ([.ptr 3 0, .ints .u8 64 x.1, .int .i64 x.2.1, .int .u64 x.2.2.1], 117, .norm)), (1, ([.vw true 4 0 x.2.2.2.1 5, .vw true 6 0 x.2.2.2.2.1 7], 0, .ro)), (3, ([.ints .u32 8 x.2.2.2.2.2.1], 113, .norm)), (4, ([.ints .u8 x.2.2.2.2.2.2.1 x.2.2.2.2.2.2.2.1], 0, .ro)), (6, ([.ints .u8 x.2.2.2.2.2.2.2.2.1 x.2.2.2.2.2.2.2.2.2], 0, .ro))]
def f57v2.inA : VS → Option (f57v2.Ty2)
  | ⟨[(0, .ptr 0 0), (1, .vw true 1 0 2 2)], [(0, ([.ptr 3 0, .ints .u8 64 m0_0, .int .i64 m0_1, .int .u64 m0_2], 117, .norm)), (1, ([.vw true 4 0 m1_0 5, .vw true 6 0 m1_1 7], 0, .ro)), (3, ([.ints .u32 8 m3], 113, .norm)), (4, ([.ints .u8 m4_0 m4_1], 0, .ro)), (6, ([.ints .u8 m6_0 m6_1], 0, .ro))], 8⟩ => some (m0_0, m0_1, m0_2, m1_0, m1_1, m3, m4_0, m4_1, m6_0, m6_1)
  | _ => none
def f57v2.o0 (y : f57v2.Ty1) : VS := ⟨[(0, .tup [])], [(0, ([.ptr 8 0, .ints .u8 64 y.1, .int .i64 y.2.1, .int .u64 y.2.2.1], 117, .norm)), (1, ([.vw true 4 0 y.2.2.2.1 5, .vw true 6 0 y.2.2.2.2.1 7], 0, .ro)), (3, ([], 113, .dead)), (4, ([.ints .u8 y.2.2.2.2.2.1 y.2.2.2.2.2.2.1], 0, .ro)), (6, ([.ints .u8 y.2.2.2.2.2.2.2.1 y.2.2.2.2.2.2.2.2.1], 0, .ro)), (8, ([.ints .u32 8 y.2.2.2.2.2.2.2.2.2], 113, .norm))], 9⟩
def f57v2.des : ∀ α : Type, (f57v2.Ty1) → (VS → Option α) → Option α := (dv1 f57v2.o0)
def f57v2.out : f57v2.Ty1 → VS := f57v2.o0
def f57v2.inR : VS → Option (f57v2.Ty1)
  | ⟨[(0, .tup [])], [(0, ([.ptr 8 0, .ints .u8 64 z0_0, .int .i64 z0_1, .int .u64 z0_2], 117, .norm)), (1, ([.vw true 4 0 z1_0 5, .vw true 6 0 z1_1 7], 0, .ro)), (3, ([], 113, .dead)), (4, ([.ints .u8 z4_0 z4_1], 0, .ro)), (6, ([.ints .u8 z6_0 z6_1], 0, .ro)), (8, ([.ints .u32 8 z8], 113, .norm))], 9⟩ => some (z0_0, z0_1, z0_2, z1_0, z1_1, z4_0, z4_1, z6_0, z6_1, z8)
  | _ => none
noncomputable def f57v2.E (K : Nat) : Entry := genE 8 f57v2.inA (f57v2.F K) f57v2.des
theorem f57v2.eq (K : Nat) (x : f57v2.Ty2) : f57v2.F K x = xrun (getA tys) (tabSp (f57v2.tab K)) Try.f57.ntmps 8 (f57v2.lp K) 400 f57v2.c ⟨initL 0 (f57v2.av x), f57v2.bl x, 8⟩ (contF (getA tys) 8 Try.f57.results.toList f57v2.inR) := by kernel_rfl
theorem f57v2.ok (K : Nat) : EntryOK Try.prog 57 (f57v2.E K) :=
  gen_ok mix tys_ok (f57v2.tabOK K) Try.func57 (by kernel_rfl : Try.f57.body = some f57v2.c) (by kernel_rfl) (f57v2.loops K) (av := f57v2.av) (bl := f57v2.bl) (out := f57v2.out) (fuel := 400)
    (by intro s x h; unfold f57v2.inA at h; split at h <;> simp at h; subst h; rfl) (fun _ => Nat.le_of_ble_eq_true rfl)
    (by intro s y h; unfold f57v2.inR at h; split at h <;> simp at h <;> subst h <;> rfl) (fun _ _ _ => rfl) (f57v2.eq K)
end Go.Proofs

namespace Go.Proofs
open Go.VM
abbrev f57.Ty0 := Nat × Nat × List Int × Int × Int × Nat × Nat × List Int × List Int
abbrev f57.Ty1 := List Int × Int × Int × Nat × Nat × List Int × List Int
abbrev f57.Ty2 := List Int × Int × Int × Nat × List Int × Nat × List Int
noncomputable def f57.c : Code := bodyOf Try.f57
def f57.s2t (K : Nat) (rec : f57.Ty0 → Option (f57.Ty1)) (t5_0 : Nat) (t5_1 : Nat) (b0_0 : List Int) (b0_1 : Int) (b0_2 : Int) (b1 : Nat) (b4_0 : Nat) (b4_1 : List Int) (b7 : List Int) : Option (f57.Ty1) :=
  bif (decide (((t5_1 : Nat) : Int) > 0)) then
    bif decide (0 ≤ b0_1 ∧ b0_1 ≤ 64) then
      let v6 := bif Nat.beq 64 (Int.toNat b0_1) then 0 else (Int.toNat b0_1)
      let v7 := 64 - (Int.toNat b0_1)
      bif (((Nat.ble (t5_0 + t5_1) b4_0 && true) && (Nat.ble (v6 + v7) 64)) && (Nat.beq t5_1 t5_1)) then
        let v9 := ((Nat.min t5_1 v7 : Nat) : Int)
        let v10 := spl b0_0 v6 (Nat.min t5_1 v7) (subI b4_1 t5_0 t5_1)
        bif decide (0 ≤ v9 ∧ v9 ≤ ((t5_1 : Nat) : Int)) then
          let v11 := t5_0 + (Int.toNat v9)
          let v12 := t5_1 - (Int.toNat v9)
          let v13 := IntKind.wrap .i64 (b0_1 + v9)
          bif (v13 == 64) then
            (f90.F K (b7, v10, v13, b0_2, b7)).bind fun y14 =>
            rec (v11, v12, y14.2.1, 0, y14.2.2.2.1, b1, b4_0, b4_1, y14.1)
          else
            rec (v11, v12, v10, v13, b0_2, b1, b4_0, b4_1, b7)
        else
          none
      else
        none
    else
      none
  else
    some (b0_0, b0_1, b0_2, b1, b4_0, b4_1, b7)
def f57.s2 (K : Nat) (rec : f57.Ty0 → Option (f57.Ty1)) (x : f57.Ty0) : Option (f57.Ty1) := f57.s2t K rec x.1 x.2.1 x.2.2.1 x.2.2.2.1 x.2.2.2.2.1 x.2.2.2.2.2.1 x.2.2.2.2.2.2.1 x.2.2.2.2.2.2.2.1 x.2.2.2.2.2.2.2.2
noncomputable def f57.s2.b : Code := (findLoop 2 f57.c).getD .skip
def f57.s2.h : Hint := { lv := [0, 5, 8, 9, 10], co := [(5, 0, [])], mv := [3] }
def f57.s2.ho : Hint := { lv := [0, 8, 9, 10] }
def f57.s2.shp (x : f57.Ty0) : VS := ⟨[(0, .ptr 0 0), (5, .vw true 4 x.1 x.2.1 6), (8, .vw true 1 0 1 2), (9, .int .i64 1), (10, .int .i64 0)], [(0, ([.ptr 7 0, .ints .u8 64 x.2.2.1, .int .i64 x.2.2.2.1, .int .u64 x.2.2.2.2.1], 117, .norm)), (1, ([.vw true 4 0 x.2.2.2.2.2.1 5], 0, .ro)), (3, ([], 113, .dead)), (4, ([.ints .u8 x.2.2.2.2.2.2.1 x.2.2.2.2.2.2.2.1], 0, .ro)), (7, ([.ints .u32 8 x.2.2.2.2.2.2.2.2], 113, .norm))], 8⟩
def f57.s2.inX : VS → Option (f57.Ty0)
  | ⟨[(0, .ptr 0 0), (5, .vw true 4 t5_0 t5_1 6), (8, .vw true 1 0 1 2), (9, .int .i64 1), (10, .int .i64 0)], [(0, ([.ptr 7 0, .ints .u8 64 b0_0, .int .i64 b0_1, .int .u64 b0_2], 117, .norm)), (1, ([.vw true 4 0 b1 5], 0, .ro)), (3, ([], 113, .dead)), (4, ([.ints .u8 b4_0 b4_1], 0, .ro)), (7, ([.ints .u32 8 b7], 113, .norm))], 8⟩ => some (t5_0, t5_1, b0_0, b0_1, b0_2, b1, b4_0, b4_1, b7)
  | _ => none
def f57.s2.o0 (y : f57.Ty1) : VS := ⟨[(0, .ptr 0 0), (8, .vw true 1 0 1 2), (9, .int .i64 1), (10, .int .i64 0)], [(0, ([.ptr 6 0, .ints .u8 64 y.1, .int .i64 y.2.1, .int .u64 y.2.2.1], 117, .norm)), (1, ([.vw true 4 0 y.2.2.2.1 5], 0, .ro)), (3, ([], 113, .dead)), (4, ([.ints .u8 y.2.2.2.2.1 y.2.2.2.2.2.1], 0, .ro)), (6, ([.ints .u32 8 y.2.2.2.2.2.2], 113, .norm))], 7⟩
def f57.s2.des : ∀ α : Type, (f57.Ty1) → (Ex → VS → Option α) → Option α := (des1 (.exit 2) f57.s2.o0)
def f57.s2.out : f57.Ty1 → Ex × VS := (fun y => (.exit 2, f57.s2.o0 y))
theorem f57.s2.desOK : ∀ α y (k : Ex → VS → Option α), f57.s2.des α y k = k (f57.s2.out y).1 (f57.s2.out y).2 := (fun _ _ _ => rfl)
def f57.s2.inY : Ex → VS → Option (f57.Ty1)
  | .exit 2, ⟨[(0, .ptr 0 0), (8, .vw true 1 0 1 2), (9, .int .i64 1), (10, .int .i64 0)], [(0, ([.ptr 6 0, .ints .u8 64 b0_0, .int .i64 b0_1, .int .u64 b0_2], 117, .norm)), (1, ([.vw true 4 0 b1 5], 0, .ro)), (3, ([], 113, .dead)), (4, ([.ints .u8 b4_0 b4_1], 0, .ro)), (6, ([.ints .u32 8 b6], 113, .norm))], 7⟩ => some (b0_0, b0_1, b0_2, b1, b4_0, b4_1, b6)
  | _, _ => none
def f57.lp (K : Nat) : Nat → Option (Hint × Summ) := tabLp [(2, f57.s2.h, summOf (iter (f57.s2 K) K) f57.s2.inX f57.s2.des)]
noncomputable def f57.tab (K : Nat) : List (Nat × Entry) := [(90, (f90.E K))]
theorem f57.tabOK (K : Nat) : SpecOK Try.prog (tabSp (f57.tab K)) := tab_ok ((tab_cons (f90.ok K) tab_nil))
theorem f57.s2.eq (K : Nat) (rec : f57.Ty0 → Option (f57.Ty1)) (x : f57.Ty0) : f57.s2 K rec x = roundL (getA tys) (tabSp (f57.tab K)) 76 6 (f57.lp K) 400 f57.s2.b f57.s2.h f57.s2.ho f57.s2.shp f57.s2.inX f57.s2.inY rec x := by kernel_rfl
theorem f57.s2.lok (K : Nat) : LoopsOK Try.prog 76 6 (f57.lp K) f57.s2.b := loops_ok (by
  have h : loopsIn (f57.lp K) f57.s2.b = [] := by kernel_rfl
  rw [h]; simp)
theorem f57.s2.ok (K : Nat) : SummOK Try.prog 76 6 (summOf (iter (f57.s2 K) K) f57.s2.inX f57.s2.des) f57.s2.b :=
  loop_ok mix tys_ok (f57.tabOK K) (h := f57.s2.h) (ho := f57.s2.ho) (shp := f57.s2.shp) (inX := f57.s2.inX) (des := f57.s2.des) (out := f57.s2.out) (inY := f57.s2.inY) (fuel := 400)
    (by intro st x h; unfold f57.s2.inX at h; split at h <;> simp at h; subst h; rfl)
    (by intro e st y h; unfold f57.s2.inY at h; split at h <;> simp at h <;> subst h <;> rfl)
    f57.s2.desOK (f57.s2.lok K) (f57.s2 K) (f57.s2.eq K) K
theorem f57.loops (K : Nat) : LoopsOK Try.prog 76 6 (f57.lp K) f57.c := loops_ok (by
  have h : loopsIn (f57.lp K) f57.c = [(2, f57.s2.b)] := by kernel_rfl
  rw [h]
  intro p hp
  simp only [List.mem_cons, List.not_mem_nil, or_false] at hp
  rcases hp with rfl
  · exact ⟨_, rfl, (f57.s2.ok K)⟩)
def f57.T (K : Nat) (m0_0 : List Int) (m0_1 : Int) (m0_2 : Int) (m1 : Nat) (m3 : List Int) (m4_0 : Nat) (m4_1 : List Int) : Option (f57.Ty1) :=
  (iter (f57.s2 K) K (0, m1, m0_0, m0_1, (IntKind.wrap .u64 (m0_2 + (IntKind.wrap .u64 ((m1 : Nat) : Int)))), m1, m4_0, m4_1, m3)).bind fun y15 =>
  some (y15.1, y15.2.1, y15.2.2.1, y15.2.2.2.1, y15.2.2.2.2.1, y15.2.2.2.2.2.1, y15.2.2.2.2.2.2)
def f57.F (K : Nat) (x : f57.Ty2) : Option (f57.Ty1) := f57.T K x.1 x.2.1 x.2.2.1 x.2.2.2.1 x.2.2.2.2.1 x.2.2.2.2.2.1 x.2.2.2.2.2.2
def f57.av (_x : f57.Ty2) : List VV := [.ptr 0 0, .vw true 1 0 1 2]
def f57.bl (x : f57.Ty2) : List (Nat × Blk) := [(0, ([.ptr 3 0, .ints .u8 64 x.1, .int .i64 x.2.1, .int .u64 x.2.2.1], 117, .norm)), (1, ([.vw true 4 0 x.2.2.2.1 5], 0, .ro)), (3, ([.ints .u32 8 x.2.2.2.2.1], 113, .norm)), (4, ([.ints .u8 x.2.2.2.2.2.1 x.2.2.2.2.2.2], 0, .ro))]
def f57.inA : VS → Option (f57.Ty2)
  | ⟨[(0, .ptr 0 0), (1, .vw true 1 0 1 2)], [(0, ([.ptr 3 0, .ints .u8 64 m0_0, .int .i64 m0_1, .int .u64 m0_2], 117, .norm)), (1, ([.vw true 4 0 m1 5], 0, .ro)), (3, ([.ints .u32 8 m3], 113, .norm)), (4, ([.ints .u8 m4_0 m4_1], 0, .ro))], 6⟩ => some (m0_0, m0_1, m0_2, m1, m3, m4_0, m4_1)
  | _ => none
def f57.o0 (y : f57.Ty1) : VS := ⟨[(0, .tup [])], [(0, ([.ptr 6 0, .ints .u8 64 y.1, .int .i64 y.2.1, .int .u64 y.2.2.1], 117, .norm)), (1, ([.vw true 4 0 y.2.2.2.1 5], 0, .ro)), (3, ([], 113, .dead)), (4, ([.ints .u8 y.2.2.2.2.1 y.2.2.2.2.2.1], 0, .ro)), (6, ([.ints .u32 8 y.2.2.2.2.2.2], 113, .norm))], 7⟩
def f57.des : ∀ α : Type, (f57.Ty1) → (VS → Option α) → Option α := (dv1 f57.o0)
def f57.out : f57.Ty1 → VS := f57.o0
def f57.inR : VS → Option (f57.Ty1)
  | ⟨[(0, .tup [])], [(0, ([.ptr 6 0, .ints .u8 64 z0_0, .int .i64 z0_1, .int .u64 z0_2], 117, .norm)), (1, ([.vw true 4 0 z1 5], 0, .ro)), (3, ([], 113, .dead)), (4, ([.ints .u8 z4_0 z4_1], 0, .ro)), (6, ([.ints .u32 8 z6], 113, .norm))], 7⟩ => some (z0_0, z0_1, z0_2, z1, z4_0, z4_1, z6)
  | _ => none
noncomputable def f57.E (K : Nat) : Entry := genE 6 f57.inA (f57.F K) f57.des
theorem f57.eq (K : Nat) (x : f57.Ty2) : f57.F K x = xrun (getA tys) (tabSp (f57.tab K)) Try.f57.ntmps 6 (f57.lp K) 400 f57.c ⟨initL 0 (f57.av x), f57.bl x, 6⟩ (contF (getA tys) 6 Try.f57.results.toList f57.inR) := by kernel_rfl
theorem f57.ok (K : Nat) : EntryOK Try.prog 57 (f57.E K) :=
  gen_ok mix tys_ok (f57.tabOK K) Try.func57 (by kernel_rfl : Try.f57.body = some f57.c) (by kernel_rfl) (f57.loops K) (av := f57.av) (bl := f57.bl) (out := f57.out) (fuel := 400)
    (by intro s x h; unfold f57.inA at h; split at h <;> simp at h; subst h; rfl) (fun _ => Nat.le_of_ble_eq_true rfl)
    (by intro s y h; unfold f57.inR at h; split at h <;> simp at h <;> subst h <;> rfl) (fun _ _ _ => rfl) (f57.eq K)
end Go.Proofs

namespace Go.Proofs
open Go.VM
abbrev f57v1.Ty0 := Nat × Nat × List Int × Int × Int × Nat × Nat × Nat × Nat × List Int × Nat × List Int × Nat × List Int × List Int
abbrev f57v1.Ty1 := List Int × Int × Int × Nat × Nat × Nat × Nat × List Int × Nat × List Int × Nat × List Int × List Int
abbrev f57v1.Ty2 := List Int × Int × Int × Nat × Nat × Nat × List Int × Nat × List Int × Nat × List Int × Nat × List Int
noncomputable def f57v1.c : Code := bodyOf Try.f57
def f57v1.s2t (K : Nat) (rec : f57v1.Ty0 → Option (f57v1.Ty1)) (t5_0 : Nat) (t5_1 : Nat) (b0_0 : List Int) (b0_1 : Int) (b0_2 : Int) (b1_0 : Nat) (b1_1 : Nat) (b1_2 : Nat) (b4_0 : Nat) (b4_1 : List Int) (b6_0 : Nat) (b6_1 : List Int) (b8_0 : Nat) (b8_1 : List Int) (b11 : List Int) : Option (f57v1.Ty1) :=
  bif (decide (((t5_1 : Nat) : Int) > 0)) then
    bif decide (0 ≤ b0_1 ∧ b0_1 ≤ 64) then
      let v6 := bif Nat.beq 64 (Int.toNat b0_1) then 0 else (Int.toNat b0_1)
      let v7 := 64 - (Int.toNat b0_1)
      bif (((Nat.ble (t5_0 + t5_1) b4_0 && true) && (Nat.ble (v6 + v7) 64)) && (Nat.beq t5_1 t5_1)) then
        let v9 := ((Nat.min t5_1 v7 : Nat) : Int)
        let v10 := spl b0_0 v6 (Nat.min t5_1 v7) (subI b4_1 t5_0 t5_1)
        bif decide (0 ≤ v9 ∧ v9 ≤ ((t5_1 : Nat) : Int)) then
          let v11 := t5_0 + (Int.toNat v9)
          let v12 := t5_1 - (Int.toNat v9)
          let v13 := IntKind.wrap .i64 (b0_1 + v9)
          bif (v13 == 64) then
            (f90.F K (b11, v10, v13, b0_2, b11)).bind fun y14 =>
            rec (v11, v12, y14.2.1, 0, y14.2.2.2.1, b1_0, b1_1, b1_2, b4_0, b4_1, b6_0, b6_1, b8_0, b8_1, y14.1)
          else
            rec (v11, v12, v10, v13, b0_2, b1_0, b1_1, b1_2, b4_0, b4_1, b6_0, b6_1, b8_0, b8_1, b11)
        else
          none
      else
        none
    else
      none
  else
    some (b0_0, b0_1, b0_2, b1_0, b1_1, b1_2, b4_0, b4_1, b6_0, b6_1, b8_0, b8_1, b11)
def f57v1.s2 (K : Nat) (rec : f57v1.Ty0 → Option (f57v1.Ty1)) (x : f57v1.Ty0) : Option (f57v1.Ty1) := f57v1.s2t K rec x.1 x.2.1 x.2.2.1 x.2.2.2.1 x.2.2.2.2.1 x.2.2.2.2.2.1 x.2.2.2.2.2.2.1 x.2.2.2.2.2.2.2.1 x.2.2.2.2.2.2.2.2.1 x.2.2.2.2.2.2.2.2.2.1 x.2.2.2.2.2.2.2.2.2.2.1 x.2.2.2.2.2.2.2.2.2.2.2.1 x.2.2.2.2.2.2.2.2.2.2.2.2.1 x.2.2.2.2.2.2.2.2.2.2.2.2.2.1 x.2.2.2.2.2.2.2.2.2.2.2.2.2.2
noncomputable def f57v1.s2.b : Code := (findLoop 2 f57v1.c).getD .skip
def f57v1.s2.h : Hint := { lv := [0, 5, 8, 9, 10], co := [(5, 0, [])], mv := [3] }
def f57v1.s2.ho : Hint := { lv := [0, 8, 9, 10] }
def f57v1.s2.shp (x : f57v1.Ty0) : VS := ⟨[(0, .ptr 0 0), (5, .vw true 4 x.1 x.2.1 10), (8, .vw true 1 0 3 2), (9, .int .i64 3), (10, .int .i64 0)], [(0, ([.ptr 11 0, .ints .u8 64 x.2.2.1, .int .i64 x.2.2.2.1, .int .u64 x.2.2.2.2.1], 117, .norm)), (1, ([.vw true 4 0 x.2.2.2.2.2.1 5, .vw true 6 0 x.2.2.2.2.2.2.1 7, .vw true 8 0 x.2.2.2.2.2.2.2.1 9], 0, .ro)), (3, ([], 113, .dead)), (4, ([.ints .u8 x.2.2.2.2.2.2.2.2.1 x.2.2.2.2.2.2.2.2.2.1], 0, .ro)), (6, ([.ints .u8 x.2.2.2.2.2.2.2.2.2.2.1 x.2.2.2.2.2.2.2.2.2.2.2.1], 0, .ro)), (8, ([.ints .u8 x.2.2.2.2.2.2.2.2.2.2.2.2.1 x.2.2.2.2.2.2.2.2.2.2.2.2.2.1], 0, .ro)), (11, ([.ints .u32 8 x.2.2.2.2.2.2.2.2.2.2.2.2.2.2], 113, .norm))], 12⟩
def f57v1.s2.inX : VS → Option (f57v1.Ty0)
  | ⟨[(0, .ptr 0 0), (5, .vw true 4 t5_0 t5_1 10), (8, .vw true 1 0 3 2), (9, .int .i64 3), (10, .int .i64 0)], [(0, ([.ptr 11 0, .ints .u8 64 b0_0, .int .i64 b0_1, .int .u64 b0_2], 117, .norm)), (1, ([.vw true 4 0 b1_0 5, .vw true 6 0 b1_1 7, .vw true 8 0 b1_2 9], 0, .ro)), (3, ([], 113, .dead)), (4, ([.ints .u8 b4_0 b4_1], 0, .ro)), (6, ([.ints .u8 b6_0 b6_1], 0, .ro)), (8, ([.ints .u8 b8_0 b8_1], 0, .ro)), (11, ([.ints .u32 8 b11], 113, .norm))], 12⟩ => some (t5_0, t5_1, b0_0, b0_1, b0_2, b1_0, b1_1, b1_2, b4_0, b4_1, b6_0, b6_1, b8_0, b8_1, b11)
  | _ => none
def f57v1.s2.o0 (y : f57v1.Ty1) : VS := ⟨[(0, .ptr 0 0), (8, .vw true 1 0 3 2), (9, .int .i64 3), (10, .int .i64 0)], [(0, ([.ptr 10 0, .ints .u8 64 y.1, .int .i64 y.2.1, .int .u64 y.2.2.1], 117, .norm)), (1, ([.vw true 4 0 y.2.2.2.1 5, .vw true 6 0 y.2.2.2.2.1 7, .vw true 8 0 y.2.2.2.2.2.1 9], 0, .ro)), (3, ([], 113, .dead)), (4, ([.ints .u8 y.2.2.2.2.2.2.1 y.2.2.2.2.2.2.2.1], 0, .ro)), (6, ([.ints .u8 y.2.2.2.2.2.2.2.2.1 y.2.2.2.2.2.2.2.2.2.1], 0, .ro)), (8, ([.ints .u8 y.2.2.2.2.2.2.2.2.2.2.1 y.2.2.2.2.2.2.2.2.2.2.2.1], 0, .ro)), (10, ([.ints .u32 8 y.2.2.2.2.2.2.2.2.2.2.2.2], 113, .norm))], 11⟩
def f57v1.s2.des : ∀ α : Type, (f57v1.Ty1) → (Ex → VS → Option α) → Option α := (des1 (.exit 2) f57v1.s2.o0)
def f57v1.s2.out : f57v1.Ty1 → Ex × VS := (fun y => (.exit 2, f57v1.s2.o0 y))
theorem f57v1.s2.desOK : ∀ α y (k : Ex → VS → Option α), f57v1.s2.des α y k = k (f57v1.s2.out y).1 (f57v1.s2.out y).2 := (fun _ _ _ => rfl)
def f57v1.s2.inY : Ex → VS → Option (f57v1.Ty1)
  | .exit 2, ⟨[(0, .ptr 0 0), (8, .vw true 1 0 3 2), (9, .int .i64 3), (10, .int .i64 0)], [(0, ([.ptr 10 0, .ints .u8 64 b0_0, .int .i64 b0_1, .int .u64 b0_2], 117, .norm)), (1, ([.vw true 4 0 b1_0 5, .vw true 6 0 b1_1 7, .vw true 8 0 b1_2 9], 0, .ro)), (3, ([], 113, .dead)), (4, ([.ints .u8 b4_0 b4_1], 0, .ro)), (6, ([.ints .u8 b6_0 b6_1], 0, .ro)), (8, ([.ints .u8 b8_0 b8_1], 0, .ro)), (10, ([.ints .u32 8 b10], 113, .norm))], 11⟩ => some (b0_0, b0_1, b0_2, b1_0, b1_1, b1_2, b4_0, b4_1, b6_0, b6_1, b8_0, b8_1, b10)
  | _, _ => none
def f57v1.s2bt (K : Nat) (rec : f57v1.Ty0 → Option (f57v1.Ty1)) (t5_0 : Nat) (t5_1 : Nat) (b0_0 : List Int) (b0_1 : Int) (b0_2 : Int) (b1_0 : Nat) (b1_1 : Nat) (b1_2 : Nat) (b4_0 : Nat) (b4_1 : List Int) (b6_0 : Nat) (b6_1 : List Int) (b8_0 : Nat) (b8_1 : List Int) (b11 : List Int) : Option (f57v1.Ty1) :=
  bif (decide (((t5_1 : Nat) : Int) > 0)) then
    bif decide (0 ≤ b0_1 ∧ b0_1 ≤ 64) then
      let v22 := bif Nat.beq 64 (Int.toNat b0_1) then 0 else (Int.toNat b0_1)
      let v23 := 64 - (Int.toNat b0_1)
      bif (((Nat.ble (t5_0 + t5_1) b6_0 && true) && (Nat.ble (v22 + v23) 64)) && (Nat.beq t5_1 t5_1)) then
        let v25 := ((Nat.min t5_1 v23 : Nat) : Int)
        let v26 := spl b0_0 v22 (Nat.min t5_1 v23) (subI b6_1 t5_0 t5_1)
        bif decide (0 ≤ v25 ∧ v25 ≤ ((t5_1 : Nat) : Int)) then
          let v27 := t5_0 + (Int.toNat v25)
          let v28 := t5_1 - (Int.toNat v25)
          let v29 := IntKind.wrap .i64 (b0_1 + v25)
          bif (v29 == 64) then
            (f90.F K (b11, v26, v29, b0_2, b11)).bind fun y30 =>
            rec (v27, v28, y30.2.1, 0, y30.2.2.2.1, b1_0, b1_1, b1_2, b4_0, b4_1, b6_0, b6_1, b8_0, b8_1, y30.1)
          else
            rec (v27, v28, v26, v29, b0_2, b1_0, b1_1, b1_2, b4_0, b4_1, b6_0, b6_1, b8_0, b8_1, b11)
        else
          none
      else
        none
    else
      none
  else
    some (b0_0, b0_1, b0_2, b1_0, b1_1, b1_2, b4_0, b4_1, b6_0, b6_1, b8_0, b8_1, b11)
def f57v1.s2b (K : Nat) (rec : f57v1.Ty0 → Option (f57v1.Ty1)) (x : f57v1.Ty0) : Option (f57v1.Ty1) := f57v1.s2bt K rec x.1 x.2.1 x.2.2.1 x.2.2.2.1 x.2.2.2.2.1 x.2.2.2.2.2.1 x.2.2.2.2.2.2.1 x.2.2.2.2.2.2.2.1 x.2.2.2.2.2.2.2.2.1 x.2.2.2.2.2.2.2.2.2.1 x.2.2.2.2.2.2.2.2.2.2.1 x.2.2.2.2.2.2.2.2.2.2.2.1 x.2.2.2.2.2.2.2.2.2.2.2.2.1 x.2.2.2.2.2.2.2.2.2.2.2.2.2.1 x.2.2.2.2.2.2.2.2.2.2.2.2.2.2
noncomputable def f57v1.s2b.b : Code := (findLoop 2 f57v1.c).getD .skip
def f57v1.s2b.h : Hint := { lv := [0, 5, 8, 9, 10], co := [(5, 0, [])], mv := [3] }
def f57v1.s2b.ho : Hint := { lv := [0, 8, 9, 10] }
def f57v1.s2b.shp (x : f57v1.Ty0) : VS := ⟨[(0, .ptr 0 0), (5, .vw true 6 x.1 x.2.1 10), (8, .vw true 1 0 3 2), (9, .int .i64 3), (10, .int .i64 1)], [(0, ([.ptr 11 0, .ints .u8 64 x.2.2.1, .int .i64 x.2.2.2.1, .int .u64 x.2.2.2.2.1], 117, .norm)), (1, ([.vw true 4 0 x.2.2.2.2.2.1 5, .vw true 6 0 x.2.2.2.2.2.2.1 7, .vw true 8 0 x.2.2.2.2.2.2.2.1 9], 0, .ro)), (3, ([], 113, .dead)), (4, ([.ints .u8 x.2.2.2.2.2.2.2.2.1 x.2.2.2.2.2.2.2.2.2.1], 0, .ro)), (6, ([.ints .u8 x.2.2.2.2.2.2.2.2.2.2.1 x.2.2.2.2.2.2.2.2.2.2.2.1], 0, .ro)), (8, ([.ints .u8 x.2.2.2.2.2.2.2.2.2.2.2.2.1 x.2.2.2.2.2.2.2.2.2.2.2.2.2.1], 0, .ro)), (11, ([.ints .u32 8 x.2.2.2.2.2.2.2.2.2.2.2.2.2.2], 113, .norm))], 12⟩
def f57v1.s2b.inX : VS → Option (f57v1.Ty0)
  | ⟨[(0, .ptr 0 0), (5, .vw true 6 t5_0 t5_1 10), (8, .vw true 1 0 3 2), (9, .int .i64 3), (10, .int .i64 1)], [(0, ([.ptr 11 0, .ints .u8 64 b0_0, .int .i64 b0_1, .int .u64 b0_2], 117, .norm)), (1, ([.vw true 4 0 b1_0 5, .vw true 6 0 b1_1 7, .vw true 8 0 b1_2 9], 0, .ro)), (3, ([], 113, .dead)), (4, ([.ints .u8 b4_0 b4_1], 0, .ro)), (6, ([.ints .u8 b6_0 b6_1], 0, .ro)), (8, ([.ints .u8 b8_0 b8_1], 0, .ro)), (11, ([.ints .u32 8 b11], 113, .norm))], 12⟩ => some (t5_0, t5_1, b0_0, b0_1, b0_2, b1_0, b1_1, b1_2, b4_0, b4_1, b6_0, b6_1, b8_0, b8_1, b11)
  | _ => none
def f57v1.s2b.o0 (y : f57v1.Ty1) : VS := ⟨[(0, .ptr 0 0), (8, .vw true 1 0 3 2), (9, .int .i64 3), (10, .int .i64 1)], [(0, ([.ptr 10 0, .ints .u8 64 y.1, .int .i64 y.2.1, .int .u64 y.2.2.1], 117, .norm)), (1, ([.vw true 4 0 y.2.2.2.1 5, .vw true 6 0 y.2.2.2.2.1 7, .vw true 8 0 y.2.2.2.2.2.1 9], 0, .ro)), (3, ([], 113, .dead)), (4, ([.ints .u8 y.2.2.2.2.2.2.1 y.2.2.2.2.2.2.2.1], 0, .ro)), (6, ([.ints .u8 y.2.2.2.2.2.2.2.2.1 y.2.2.2.2.2.2.2.2.2.1], 0, .ro)), (8, ([.ints .u8 y.2.2.2.2.2.2.2.2.2.2.1 y.2.2.2.2.2.2.2.2.2.2.2.1], 0, .ro)), (10, ([.ints .u32 8 y.2.2.2.2.2.2.2.2.2.2.2.2], 113, .norm))], 11⟩
def f57v1.s2b.des : ∀ α : Type, (f57v1.Ty1) → (Ex → VS → Option α) → Option α := (des1 (.exit 2) f57v1.s2b.o0)
def f57v1.s2b.out : f57v1.Ty1 → Ex × VS := (fun y => (.exit 2, f57v1.s2b.o0 y))
theorem f57v1.s2b.desOK : ∀ α y (k : Ex → VS → Option α), f57v1.s2b.des α y k = k (f57v1.s2b.out y).1 (f57v1.s2b.out y).2 := (fun _ _ _ => rfl)
def f57v1.s2b.inY : Ex → VS → Option (f57v1.Ty1)
  | .exit 2, ⟨[(0, .ptr 0 0), (8, .vw true 1 0 3 2), (9, .int .i64 3), (10, .int .i64 1)], [(0, ([.ptr 10 0, .ints .u8 64 b0_0, .int .i64 b0_1, .int .u64 b0_2], 117, .norm)), (1, ([.vw true 4 0 b1_0 5, .vw true 6 0 b1_1 7, .vw true 8 0 b1_2 9], 0, .ro)), (3, ([], 113, .dead)), (4, ([.ints .u8 b4_0 b4_1], 0, .ro)), (6, ([.ints .u8 b6_0 b6_1], 0, .ro)), (8, ([.ints .u8 b8_0 b8_1], 0, .ro)), (10, ([.ints .u32 8 b10], 113, .norm))], 11⟩ => some (b0_0, b0_1, b0_2, b1_0, b1_1, b1_2, b4_0, b4_1, b6_0, b6_1, b8_0, b8_1, b10)
  | _, _ => none
def f57v1.s2ct (K : Nat) (rec : f57v1.Ty0 → Option (f57v1.Ty1)) (t5_0 : Nat) (t5_1 : Nat) (b0_0 : List Int) (b0_1 : Int) (b0_2 : Int) (b1_0 : Nat) (b1_1 : Nat) (b1_2 : Nat) (b4_0 : Nat) (b4_1 : List Int) (b6_0 : Nat) (b6_1 : List Int) (b8_0 : Nat) (b8_1 : List Int) (b11 : List Int) : Option (f57v1.Ty1) :=
  bif (decide (((t5_1 : Nat) : Int) > 0)) then
    bif decide (0 ≤ b0_1 ∧ b0_1 ≤ 64) then
      let v38 := bif Nat.beq 64 (Int.toNat b0_1) then 0 else (Int.toNat b0_1)
      let v39 := 64 - (Int.toNat b0_1)
      bif (((Nat.ble (t5_0 + t5_1) b8_0 && true) && (Nat.ble (v38 + v39) 64)) && (Nat.beq t5_1 t5_1)) then
        let v41 := ((Nat.min t5_1 v39 : Nat) : Int)
        let v42 := spl b0_0 v38 (Nat.min t5_1 v39) (subI b8_1 t5_0 t5_1)
        bif decide (0 ≤ v41 ∧ v41 ≤ ((t5_1 : Nat) : Int)) then
          let v43 := t5_0 + (Int.toNat v41)
          let v44 := t5_1 - (Int.toNat v41)
          let v45 := IntKind.wrap .i64 (b0_1 + v41)
          bif (v45 == 64) then
            (f90.F K (b11, v42, v45, b0_2, b11)).bind fun y46 =>
            rec (v43, v44, y46.2.1, 0, y46.2.2.2.1, b1_0, b1_1, b1_2, b4_0, b4_1, b6_0, b6_1, b8_0, b8_1, y46.1)
          else
            rec (v43, v44, v42, v45, b0_2, b1_0, b1_1, b1_2, b4_0, b4_1, b6_0, b6_1, b8_0, b8_1, b11)
        else
          none
      else
        none
    else
      none
  else
    some (b0_0, b0_1, b0_2, b1_0, b1_1, b1_2, b4_0, b4_1, b6_0, b6_1, b8_0, b8_1, b11)
def f57v1.s2c (K : Nat) (rec : f57v1.Ty0 → Option (f57v1.Ty1)) (x : f57v1.Ty0) : Option (f57v1.Ty1) := f57v1.s2ct K rec x.1 x.2.1 x.2.2.1 x.2.2.2.1 x.2.2.2.2.1 x.2.2.2.2.2.1 x.2.2.2.2.2.2.1 x.2.2.2.2.2.2.2.1 x.2.2.2.2.2.2.2.2.1 x.2.2.2.2.2.2.2.2.2.1 x.2.2.2.2.2.2.2.2.2.2.1 x.2.2.2.2.2.2.2.2.2.2.2.1 x.2.2.2.2.2.2.2.2.2.2.2.2.1 x.2.2.2.2.2.2.2.2.2.2.2.2.2.1 x.2.2.2.2.2.2.2.2.2.2.2.2.2.2
noncomputable def f57v1.s2c.b : Code := (findLoop 2 f57v1.c).getD .skip
def f57v1.s2c.h : Hint := { lv := [0, 5, 8, 9, 10], co := [(5, 0, [])], mv := [3] }
def f57v1.s2c.ho : Hint := { lv := [0, 8, 9, 10] }
def f57v1.s2c.shp (x : f57v1.Ty0) : VS := ⟨[(0, .ptr 0 0), (5, .vw true 8 x.1 x.2.1 10), (8, .vw true 1 0 3 2), (9, .int .i64 3), (10, .int .i64 2)], [(0, ([.ptr 11 0, .ints .u8 64 x.2.2.1, .int .i64 x.2.2.2.1, .int .u64 x.2.2.2.2.1], 117, .norm)), (1, ([.vw true 4 0 x.2.2.2.2.2.1 5, .vw true 6 0 x.2.2.2.2.2.2.1 7, .vw true 8 0 x.2.2.2.2.2.2.2.1 9], 0, .ro)), (3, ([], 113, .dead)), (4, ([.ints .u8 x.2.2.2.2.2.2.2.2.1 x.2.2.2.2.2.2.2.2.2.1], 0, .ro)), (6, ([.ints .u8 x.2.2.2.2.2.2.2.2.2.2.1 x.2.2.2.2.2.2.2.2.2.2.2.1], 0, .ro)), (8, ([.ints .u8 x.2.2.2.2.2.2.2.2.2.2.2.2.1 x.2.2.2.2.2.2.2.2.2.2.2.2.2.1], 0, .ro)), (11, ([.ints .u32 8 x.2.2.2.2.2.2.2.2.2.2.2.2.2.2], 113, .norm))], 12⟩
def f57v1.s2c.inX : VS → Option (f57v1.Ty0)
  | ⟨[(0, .ptr 0 0), (5, .vw true 8 t5_0 t5_1 10), (8, .vw true 1 0 3 2), (9, .int .i64 3), (10, .int .i64 2)], [(0, ([.ptr 11 0, .ints .u8 64 b0_0, .int .i64 b0_1, .int .u64 b0_2], 117, .norm)), (1, ([.vw true 4 0 b1_0 5, .vw true 6 0 b1_1 7, .vw true 8 0 b1_2 9], 0, .ro)), (3, ([], 113, .dead)), (4, ([.ints .u8 b4_0 b4_1], 0, .ro)), (6, ([.ints .u8 b6_0 b6_1], 0, .ro)), (8, ([.ints .u8 b8_0 b8_1], 0, .ro)), (11, ([.ints .u32 8 b11], 113, .norm))], 12⟩ => some (t5_0, t5_1, b0_0, b0_1, b0_2, b1_0, b1_1, b1_2, b4_0, b4_1, b6_0, b6_1, b8_0, b8_1, b11)
  | _ => none
def f57v1.s2c.o0 (y : f57v1.Ty1) : VS := ⟨[(0, .ptr 0 0), (8, .vw true 1 0 3 2), (9, .int .i64 3), (10, .int .i64 2)], [(0, ([.ptr 10 0, .ints .u8 64 y.1, .int .i64 y.2.1, .int .u64 y.2.2.1], 117, .norm)), (1, ([.vw true 4 0 y.2.2.2.1 5, .vw true 6 0 y.2.2.2.2.1 7, .vw true 8 0 y.2.2.2.2.2.1 9], 0, .ro)), (3, ([], 113, .dead)), (4, ([.ints .u8 y.2.2.2.2.2.2.1 y.2.2.2.2.2.2.2.1], 0, .ro)), (6, ([.ints .u8 y.2.2.2.2.2.2.2.2.1 y.2.2.2.2.2.2.2.2.2.1], 0, .ro)), (8, ([.ints .u8 y.2.2.2.2.2.2.2.2.2.2.1 y.2.2.2.2.2.2.2.2.2.2.2.1], 0, .ro)), (10, ([.ints .u32 8 y.2.2.2.2.2.2.2.2.2.2.2.2], 113, .norm))], 11⟩
def f57v1.s2c.des : ∀ α : Type, (f57v1.Ty1) → (Ex → VS → Option α) → Option α := (des1 (.exit 2) f57v1.s2c.o0)
def f57v1.s2c.out : f57v1.Ty1 → Ex × VS := (fun y => (.exit 2, f57v1.s2c.o0 y))
theorem f57v1.s2c.desOK : ∀ α y (k : Ex → VS → Option α), f57v1.s2c.des α y k = k (f57v1.s2c.out y).1 (f57v1.s2c.out y).2 := (fun _ _ _ => rfl)
def f57v1.s2c.inY : Ex → VS → Option (f57v1.Ty1)
  | .exit 2, ⟨[(0, .ptr 0 0), (8, .vw true 1 0 3 2), (9, .int .i64 3), (10, .int .i64 2)], [(0, ([.ptr 10 0, .ints .u8 64 b0_0, .int .i64 b0_1, .int .u64 b0_2], 117, .norm)), (1, ([.vw true 4 0 b1_0 5, .vw true 6 0 b1_1 7, .vw true 8 0 b1_2 9], 0, .ro)), (3, ([], 113, .dead)), (4, ([.ints .u8 b4_0 b4_1], 0, .ro)), (6, ([.ints .u8 b6_0 b6_1], 0, .ro)), (8, ([.ints .u8 b8_0 b8_1], 0, .ro)), (10, ([.ints .u32 8 b10], 113, .norm))], 11⟩ => some (b0_0, b0_1, b0_2, b1_0, b1_1, b1_2, b4_0, b4_1, b6_0, b6_1, b8_0, b8_1, b10)
  | _, _ => none
def f57v1.lp (K : Nat) : Nat → Option (Hint × Summ) := tabLp [(2, f57v1.s2.h, summOr f57v1.s2.inX (summOf (iter (f57v1.s2 K) K) f57v1.s2.inX f57v1.s2.des) (summOr f57v1.s2b.inX (summOf (iter (f57v1.s2b K) K) f57v1.s2b.inX f57v1.s2b.des) (summOf (iter (f57v1.s2c K) K) f57v1.s2c.inX f57v1.s2c.des)))]
noncomputable def f57v1.tab (K : Nat) : List (Nat × Entry) := [(90, (f90.E K))]
theorem f57v1.tabOK (K : Nat) : SpecOK Try.prog (tabSp (f57v1.tab K)) := tab_ok ((tab_cons (f90.ok K) tab_nil))
theorem f57v1.s2.eq (K : Nat) (rec : f57v1.Ty0 → Option (f57v1.Ty1)) (x : f57v1.Ty0) : f57v1.s2 K rec x = roundL (getA tys) (tabSp (f57v1.tab K)) 76 10 (f57v1.lp K) 400 f57v1.s2.b f57v1.s2.h f57v1.s2.ho f57v1.s2.shp f57v1.s2.inX f57v1.s2.inY rec x := by kernel_rfl
theorem f57v1.s2.lok (K : Nat) : LoopsOK Try.prog 76 10 (f57v1.lp K) f57v1.s2.b := loops_ok (by
  have h : loopsIn (f57v1.lp K) f57v1.s2.b = [] := by kernel_rfl
  rw [h]; simp)
theorem f57v1.s2.ok (K : Nat) : SummOK Try.prog 76 10 (summOf (iter (f57v1.s2 K) K) f57v1.s2.inX f57v1.s2.des) f57v1.s2.b :=
  loop_ok mix tys_ok (f57v1.tabOK K) (h := f57v1.s2.h) (ho := f57v1.s2.ho) (shp := f57v1.s2.shp) (inX := f57v1.s2.inX) (des := f57v1.s2.des) (out := f57v1.s2.out) (inY := f57v1.s2.inY) (fuel := 400)
    (by intro st x h; unfold f57v1.s2.inX at h; split at h <;> simp at h; subst h; rfl)
    (by intro e st y h; unfold f57v1.s2.inY at h; split at h <;> simp at h <;> subst h <;> rfl)
    f57v1.s2.desOK (f57v1.s2.lok K) (f57v1.s2 K) (f57v1.s2.eq K) K
theorem f57v1.s2b.eq (K : Nat) (rec : f57v1.Ty0 → Option (f57v1.Ty1)) (x : f57v1.Ty0) : f57v1.s2b K rec x = roundL (getA tys) (tabSp (f57v1.tab K)) 76 10 (f57v1.lp K) 400 f57v1.s2b.b f57v1.s2b.h f57v1.s2b.ho f57v1.s2b.shp f57v1.s2b.inX f57v1.s2b.inY rec x := by kernel_rfl
theorem f57v1.s2b.lok (K : Nat) : LoopsOK Try.prog 76 10 (f57v1.lp K) f57v1.s2b.b := loops_ok (by
  have h : loopsIn (f57v1.lp K) f57v1.s2b.b = [] := by kernel_rfl
  rw [h]; simp)
theorem f57v1.s2b.ok (K : Nat) : SummOK Try.prog 76 10 (summOf (iter (f57v1.s2b K) K) f57v1.s2b.inX f57v1.s2b.des) f57v1.s2b.b :=
  loop_ok mix tys_ok (f57v1.tabOK K) (h := f57v1.s2b.h) (ho := f57v1.s2b.ho) (shp := f57v1.s2b.shp) (inX := f57v1.s2b.inX) (des := f57v1.s2b.des) (out := f57v1.s2b.out) (inY := f57v1.s2b.inY) (fuel := 400)
    (by intro st x h; unfold f57v1.s2b.inX at h; split at h <;> simp at h; subst h; rfl)
    (by intro e st y h; unfold f57v1.s2b.inY at h; split at h <;> simp at h <;> subst h <;> rfl)
    f57v1.s2b.desOK (f57v1.s2b.lok K) (f57v1.s2b K) (f57v1.s2b.eq K) K
theorem f57v1.s2c.eq (K : Nat) (rec : f57v1.Ty0 → Option (f57v1.Ty1)) (x : f57v1.Ty0) : f57v1.s2c K rec x = roundL (getA tys) (tabSp (f57v1.tab K)) 76 10 (f57v1.lp K) 400 f57v1.s2c.b f57v1.s2c.h f57v1.s2c.ho f57v1.s2c.shp f57v1.s2c.inX f57v1.s2c.inY rec x := by kernel_rfl
theorem f57v1.s2c.lok (K : Nat) : LoopsOK Try.prog 76 10 (f57v1.lp K) f57v1.s2c.b := loops_ok (by
  have h : loopsIn (f57v1.lp K) f57v1.s2c.b = [] := by kernel_rfl
  rw [h]; simp)
theorem f57v1.s2c.ok (K : Nat) : SummOK Try.prog 76 10 (summOf (iter (f57v1.s2c K) K) f57v1.s2c.inX f57v1.s2c.des) f57v1.s2c.b :=
  loop_ok mix tys_ok (f57v1.tabOK K) (h := f57v1.s2c.h) (ho := f57v1.s2c.ho) (shp := f57v1.s2c.shp) (inX := f57v1.s2c.inX) (des := f57v1.s2c.des) (out := f57v1.s2c.out) (inY := f57v1.s2c.inY) (fuel := 400)
    (by intro st x h; unfold f57v1.s2c.inX at h; split at h <;> simp at h; subst h; rfl)
    (by intro e st y h; unfold f57v1.s2c.inY at h; split at h <;> simp at h <;> subst h <;> rfl)
    f57v1.s2c.desOK (f57v1.s2c.lok K) (f57v1.s2c K) (f57v1.s2c.eq K) K
theorem f57v1.loops (K : Nat) : LoopsOK Try.prog 76 10 (f57v1.lp K) f57v1.c := loops_ok (by
  have h : loopsIn (f57v1.lp K) f57v1.c = [(2, f57v1.s2.b)] := by kernel_rfl
  rw [h]
  intro p hp
  simp only [List.mem_cons, List.not_mem_nil, or_false] at hp
  rcases hp with rfl
  · exact ⟨_, rfl, (summOr_ok (f57v1.s2.ok K) (summOr_ok (f57v1.s2b.ok K) (f57v1.s2c.ok K)))⟩)
def f57v1.T (K : Nat) (m0_0 : List Int) (m0_1 : Int) (m0_2 : Int) (m1_0 : Nat) (m1_1 : Nat) (m1_2 : Nat) (m3 : List Int) (m4_0 : Nat) (m4_1 : List Int) (m6_0 : Nat) (m6_1 : List Int) (m8_0 : Nat) (m8_1 : List Int) : Option (f57v1.Ty1) :=
  (iter (f57v1.s2 K) K (0, m1_0, m0_0, m0_1, (IntKind.wrap .u64 (m0_2 + (IntKind.wrap .u64 ((m1_0 : Nat) : Int)))), m1_0, m1_1, m1_2, m4_0, m4_1, m6_0, m6_1, m8_0, m8_1, m3)).bind fun y15 =>
  let v16 := y15.2.2.2.2.1
  (iter (f57v1.s2b K) K (0, v16, y15.1, y15.2.1, (IntKind.wrap .u64 (y15.2.2.1 + (IntKind.wrap .u64 ((v16 : Nat) : Int)))), y15.2.2.2.1, y15.2.2.2.2.1, y15.2.2.2.2.2.1, y15.2.2.2.2.2.2.1, y15.2.2.2.2.2.2.2.1, y15.2.2.2.2.2.2.2.2.1, y15.2.2.2.2.2.2.2.2.2.1, y15.2.2.2.2.2.2.2.2.2.2.1, y15.2.2.2.2.2.2.2.2.2.2.2.1, y15.2.2.2.2.2.2.2.2.2.2.2.2)).bind fun y31 =>
  let v32 := y31.2.2.2.2.2.1
  (iter (f57v1.s2c K) K (0, v32, y31.1, y31.2.1, (IntKind.wrap .u64 (y31.2.2.1 + (IntKind.wrap .u64 ((v32 : Nat) : Int)))), y31.2.2.2.1, y31.2.2.2.2.1, y31.2.2.2.2.2.1, y31.2.2.2.2.2.2.1, y31.2.2.2.2.2.2.2.1, y31.2.2.2.2.2.2.2.2.1, y31.2.2.2.2.2.2.2.2.2.1, y31.2.2.2.2.2.2.2.2.2.2.1, y31.2.2.2.2.2.2.2.2.2.2.2.1, y31.2.2.2.2.2.2.2.2.2.2.2.2)).bind fun y47 =>
  some (y47.1, y47.2.1, y47.2.2.1, y47.2.2.2.1, y47.2.2.2.2.1, y47.2.2.2.2.2.1, y47.2.2.2.2.2.2.1, y47.2.2.2.2.2.2.2.1, y47.2.2.2.2.2.2.2.2.1, y47.2.2.2.2.2.2.2.2.2.1, y47.2.2.2.2.2.2.2.2.2.2.1, y47.2.2.2.2.2.2.2.2.2.2.2.1, y47.2.2.2.2.2.2.2.2.2.2.2.2)
def f57v1.F (K : Nat) (x : f57v1.Ty2) : Option (f57v1.Ty1) := f57v1.T K x.1 x.2.1 x.2.2.1 x.2.2.2.1 x.2.2.2.2.1 x.2.2.2.2.2.1 x.2.2.2.2.2.2.1 x.2.2.2.2.2.2.2.1 x.2.2.2.2.2.2.2.2.1 x.2.2.2.2.2.2.2.2.2.1 x.2.2.2.2.2.2.2.2.2.2.1 x.2.2.2.2.2.2.2.2.2.2.2.1 x.2.2.2.2.2.2.2.2.2.2.2.2
def f57v1.av (_x : f57v1.Ty2) : List VV := [.ptr 0 0, .vw true 1 0 3 2]
def f57v1.bl (x : f57v1.Ty2) : List (Nat × Blk) := [(0, ([.ptr 3 0, .ints .u8 64 x.1, .int .i64 x.2.1, .int .u64 x.2.2.1], 117, .norm)), (1, ([.vw true 4 0 x.2.2.2.1 5, .vw true 6 0 x.2.2.2.2.1 7, .vw true 8 0 x.2.2.2.2.2.1 9], 0, .ro)), (3, ([.ints .u32 8 x.2.2.2.2.2.2.1], 113, .norm)), (4, ([.ints .u8 x.2.2.2.2.2.2.2.1 x.2.2.2.2.2.2.2.2.1], 0, .ro)), (6, ([.ints .u8 x.2.2.2.2.2.2.2.2.2.1 x.2.2.2.2.2.2.2.2.2.2.1], 0, .ro)), (8, ([.ints .u8 x.2.2.2.2.2.2.2.2.2.2.2.1 x.2.2.2.2.2.2.2.2.2.2.2.2], 0, .ro))]
def f57v1.inA : VS → Option (f57v1.Ty2)
  | ⟨[(0, .ptr 0 0), (1, .vw true 1 0 3 2)], [(0, ([.ptr 3 0, .ints .u8 64 m0_0, .int .i64 m0_1, .int .u64 m0_2], 117, .norm)), (1, ([.vw true 4 0 m1_0 5, .vw true 6 0 m1_1 7, .vw true 8 0 m1_2 9], 0, .ro)), (3, ([.ints .u32 8 m3], 113, .norm)), (4, ([.ints .u8 m4_0 m4_1], 0, .ro)), (6, ([.ints .u8 m6_0 m6_1], 0, .ro)), (8, ([.ints .u8 m8_0 m8_1], 0, .ro))], 10⟩ => some (m0_0, m0_1, m0_2, m1_0, m1_1, m1_2, m3, m4_0, m4_1, m6_0, m6_1, m8_0, m8_1)
  | _ => none
def f57v1.o0 (y : f57v1.Ty1) : VS := ⟨[(0, .tup [])], [(0, ([.ptr 10 0, .ints .u8 64 y.1, .int .i64 y.2.1, .int .u64 y.2.2.1], 117, .norm)), (1, ([.vw true 4 0 y.2.2.2.1 5, .vw true 6 0 y.2.2.2.2.1 7, .vw true 8 0 y.2.2.2.2.2.1 9], 0, .ro)), (3, ([], 113, .dead)), (4, ([.ints .u8 y.2.2.2.2.2.2.1 y.2.2.2.2.2.2.2.1], 0, .ro)), (6, ([.ints .u8 y.2.2.2.2.2.2.2.2.1 y.2.2.2.2.2.2.2.2.2.1], 0, .ro)), (8, ([.ints .u8 y.2.2.2.2.2.2.2.2.2.2.1 y.2.2.2.2.2.2.2.2.2.2.2.1], 0, .ro)), (10, ([.ints .u32 8 y.2.2.2.2.2.2.2.2.2.2.2.2], 113, .norm))], 11⟩
def f57v1.des : ∀ α : Type, (f57v1.Ty1) → (VS → Option α) → Option α := (dv1 f57v1.o0)
def f57v1.out : f57v1.Ty1 → VS := f57v1.o0
def f57v1.inR : VS → Option (f57v1.Ty1)
  | ⟨[(0, .tup [])], [(0, ([.ptr 10 0, .ints .u8 64 z0_0, .int .i64 z0_1, .int .u64 z0_2], 117, .norm)), (1, ([.vw true 4 0 z1_0 5, .vw true 6 0 z1_1 7, .vw true 8 0 z1_2 9], 0, .ro)), (3, ([], 113, .dead)), (4, ([.ints .u8 z4_0 z4_1], 0, .ro)), (6, ([.ints .u8 z6_0 z6_1], 0, .ro)), (8, ([.ints .u8 z8_0 z8_1], 0, .ro)), (10, ([.ints .u32 8 z10], 113, .norm))], 11⟩ => some (z0_0, z0_1, z0_2, z1_0, z1_1, z1_2, z4_0, z4_1, z6_0, z6_1, z8_0, z8_1, z10)
  | _ => none
noncomputable def f57v1.E (K : Nat) : Entry := genE 10 f57v1.inA (f57v1.F K) f57v1.des
theorem f57v1.eq (K : Nat) (x : f57v1.Ty2) : f57v1.F K x = xrun (getA tys) (tabSp (f57v1.tab K)) Try.f57.ntmps 10 (f57v1.lp K) 400 f57v1.c ⟨initL 0 (f57v1.av x), f57v1.bl x, 10⟩ (contF (getA tys) 10 Try.f57.results.toList f57v1.inR) := by kernel_rfl
theorem f57v1.ok (K : Nat) : EntryOK Try.prog 57 (f57v1.E K) :=
  gen_ok mix tys_ok (f57v1.tabOK K) Try.func57 (by kernel_rfl : Try.f57.body = some f57v1.c) (by kernel_rfl) (f57v1.loops K) (av := f57v1.av) (bl := f57v1.bl) (out := f57v1.out) (fuel := 400)
    (by intro s x h; unfold f57v1.inA at h; split at h <;> simp at h; subst h; rfl) (fun _ => Nat.le_of_ble_eq_true rfl)
    (by intro s y h; unfold f57v1.inR at h; split at h <;> simp at h <;> subst h <;> rfl) (fun _ _ _ => rfl) (f57v1.eq K)
end Go.Proofs

namespace Go.Proofs
open Go.VM
def Sh.init : List Int := [1779033703, 3144134277, 1013904242, 2773480762, 1359893119, 2600822924, 528734635, 1541459225]
def Sh.chain (m : List Int) : Nat → List Int
  | 0 => Sh.init
  | n + 1 => Sh.comp (Sh.chain m n) ((m.drop (64 * n)).take 64)
theorem Sh.chain_append (m q : List Int) : ∀ n, 64 * n ≤ m.length → Sh.chain (m ++ q) n = Sh.chain m n
  | 0, _ => rfl
  | n + 1, h => by
    rw [Sh.chain, Sh.chain, Sh.chain_append m q n (by omega), List.drop_append_of_le_length (by omega), List.take_append_of_le_length (by simp; omega)]
structure Sh.Rep (m : List Int) (b : List Int) (h : Int) (s : List Int) : Prop where
  len : b.length = 64
  oct : octets b
  held : h = ((m.length % 64 : Nat) : Int)
  rest : b.take (m.length % 64) = m.drop (64 * (m.length / 64))
  st : s = Sh.chain m (m.length / 64)
theorem padT_take (l : List Int) (n : Nat) (h : n ≤ l.length) : padT l n = l.take n := by
  have := subI_cut l 0 n (by omega)
  rw [List.drop_zero] at this
  rw [← this]
  simp [padT, subI]
theorem Sh.Rep.block {m b s : List Int} {h : Int} (R : Sh.Rep m b h s) (q L : List Int) (k : Nat) (hk : q.length = k) (hL : L.take k = q) (hle : k ≤ L.length) (hr : m.length % 64 + k ≤ 64) :
    spl b (m.length % 64) k L = m.drop (64 * (m.length / 64)) ++ q ++ b.drop (m.length % 64 + k) := by
  rw [spl, padT_take b _ (by have := R.len; omega), padT_take L k hle, hL, R.rest]
theorem Sh.Rep.some {m b s : List Int} {h : Int} (R : Sh.Rep m b h s) (q L : List Int) (k : Nat) (hk : q.length = k) (ho : octets L) (hL : L.take k = q) (hle : k ≤ L.length) (hr : m.length % 64 + k < 64) :
    Sh.Rep (m ++ q) (spl b (m.length % 64) k L) (h + k) s := by
  have e := R.block q L k hk hL hle (by omega)
  have l1 : (m ++ q).length / 64 = m.length / 64 := by rw [List.length_append]; omega
  have l2 : (m ++ q).length % 64 = m.length % 64 + k := by rw [List.length_append]; omega
  have d : (m.drop (64 * (m.length / 64))).length = m.length % 64 := by rw [List.length_drop]; omega
  refine ⟨?_, octets_spl R.oct ho _ _, ?_, ?_, ?_⟩
  · have dd : (b.drop (m.length % 64 + k)).length = 64 - (m.length % 64 + k) := by rw [List.length_drop, R.len]
    rw [e, List.length_append, List.length_append, dd, d, hk]; omega
  · rw [R.held, l2]; omega
  · rw [l1, l2, e, List.take_append_of_le_length (by rw [List.length_append, d]; omega), List.take_of_length_le (by rw [List.length_append, d]; omega), List.drop_append_of_le_length (by omega)]
  · rw [l1, Sh.chain_append _ _ _ (by omega)]; exact R.st
theorem Sh.Rep.full {m b s : List Int} {h : Int} (R : Sh.Rep m b h s) (q L : List Int) (k : Nat) (hk : q.length = k) (ho : octets L) (hL : L.take k = q) (hle : k ≤ L.length) (hr : m.length % 64 + k = 64) :
    Sh.Rep (m ++ q) (spl b (m.length % 64) k L) 0 (Sh.comp s (spl b (m.length % 64) k L)) := by
  have e := R.block q L k hk hL hle (by omega)
  have l1 : (m ++ q).length / 64 = m.length / 64 + 1 := by rw [List.length_append]; omega
  have l2 : (m ++ q).length % 64 = 0 := by rw [List.length_append]; omega
  have d : (m.drop (64 * (m.length / 64))).length = m.length % 64 := by rw [List.length_drop]; omega
  have eb : b.drop (m.length % 64 + k) = [] := List.drop_of_length_le (by have := R.len; omega)
  rw [eb, List.append_nil] at e
  refine ⟨?_, octets_spl R.oct ho _ _, ?_, ?_, ?_⟩
  · rw [e, List.length_append, d]; omega
  · rw [l2]; rfl
  · rw [l1, l2, List.take_zero, List.drop_of_length_le (by rw [List.length_append]; omega)]
  · rw [l1, Sh.chain, Sh.chain_append _ _ _ (by omega), ← R.st, List.drop_append_of_le_length (by omega), e, List.take_of_length_le (by rw [List.length_append, d]; omega)]
theorem sub_take (p : List Int) (off rem k : Nat) (h : off + rem = p.length) (hk : k ≤ rem) : p.take (off + k) = p.take off ++ (subI p off rem).take k := by
  rw [subI_cut p off rem (by omega), List.take_take, Nat.min_eq_left hk, List.take_add]
theorem tot_add (m n : Nat) : IntKind.wrap .u64 (((m % 18446744073709551616 : Nat) : Int) + (IntKind.wrap .u64 ((n : Nat) : Int))) = (((m + n) % 18446744073709551616 : Nat) : Int) := by
  rw [wrap_nat, show ∀ a b : Nat, ((a : Int) + (b : Int)) = ((a + b : Nat) : Int) from fun a b => rfl, wrap_nat]
  congr 1
  omega
theorem Sh.take_all {T O : Type} {stp : (T → Option O) → T → Option O} (p : List Int) (pack : Nat → Nat → List Int → Int → List Int → T) (fin : List Int → Int → List Int → O)
    (hend : ∀ rec off b h s, stp rec (pack off 0 b h s) = some (fin b h s))
    (hgo : ∀ rec off rem b r k s, off + rem = p.length → 0 < rem → r < 64 → min rem (64 - r) = k → octets (spl b r k (subI p off rem)) → stp rec (pack off rem b (r : Int) s) = if r + k = 64 then rec (pack (off + k) (rem - k) (spl b r k (subI p off rem)) 0 (Sh.comp s (spl b r k (subI p off rem)))) else rec (pack (off + k) (rem - k) (spl b r k (subI p off rem)) ((r + k : Nat) : Int) s))
    (K : Nat) (m : List Int) (ho : octets p) (b s : List Int) (h : Int) (R : Sh.Rep m b h s) (hK2 : 2 * ((m.length % 64 + p.length) / 64) + 1 < K) :
    ∃ b' h' s', iter stp K (pack 0 p.length b h s) = some (fin b' h' s') ∧ Sh.Rep (m ++ p) b' h' s' := by
  refine Exists.elim (iter_inv (stp := stp)
    (fun n x => ∃ off rem b h s, x = pack off rem b h s ∧ off + rem = p.length ∧ Sh.Rep (m ++ p.take off) b h s ∧ 2 * (((m ++ p.take off).length % 64 + rem) / 64) + (if rem = 0 then 0 else 1) = n)
    (fun y => ∃ b' h' s', y = fin b' h' s' ∧ Sh.Rep (m ++ p) b' h' s') ?_ (2 * ((m.length % 64 + p.length) / 64) + (if p.length = 0 then 0 else 1)) (pack 0 p.length b h s)
    ⟨0, p.length, b, h, s, rfl, by omega, by rw [List.take_zero, List.append_nil]; exact R, by rw [List.take_zero, List.append_nil]⟩ K (by split <;> omega)) ?_
  · intro n x hx
    obtain ⟨off, rem, b, h, s, rfl, hsum, R, hm⟩ := hx
    rcases Nat.eq_zero_or_pos rem with h0 | h0
    · subst h0
      refine Or.inl ⟨_, ⟨b, h, s, rfl, ?_⟩, fun rec => hend rec off b h s⟩
      rw [List.take_of_length_le (by omega)] at R; exact R
    · refine Or.inr ?_
      generalize hM : m ++ p.take off = M at R hm
      have hd := R.held
      have hr : M.length % 64 < 64 := Nat.mod_lt _ (by decide)
      generalize hk : min rem (64 - M.length % 64) = k
      have hk1 : k ≤ rem := by omega
      have es : M ++ (subI p off rem).take k = m ++ p.take (off + k) := by rw [sub_take p off rem k hsum hk1, ← List.append_assoc, hM]
      have hq : ((subI p off rem).take k).length = k := by rw [List.length_take, subI_length]; omega
      have hob := octets_spl R.oct (octets_sub ho off rem) (M.length % 64) k
      have go := fun rec => hgo rec off rem b (M.length % 64) k s hsum h0 hr hk hob
      rcases Nat.lt_or_ge (M.length % 64 + k) 64 with hc | hc
      · have R' := R.some _ (subI p off rem) k hq (octets_sub ho off rem) rfl (by rw [subI_length]; exact hk1) hc
        rw [es, hd, show ((M.length % 64 : Nat) : Int) + (k : Int) = ((M.length % 64 + k : Nat) : Int) from by omega] at R'
        refine ⟨_, _, ?_, ⟨off + k, rem - k, _, _, s, rfl, by omega, R', rfl⟩, fun rec => by rw [hd, go rec, if_neg (by omega)]⟩
        rw [← es, List.length_append, hq, ← hm, if_neg (show rem ≠ 0 by omega), if_pos (show rem - k = 0 by omega)]
        have : (M.length + k) % 64 + (rem - k) = M.length % 64 + rem := by omega
        rw [this]; omega
      · have hc' : M.length % 64 + k = 64 := by omega
        have R' := R.full _ (subI p off rem) k hq (octets_sub ho off rem) rfl (by rw [subI_length]; exact hk1) hc'
        rw [es] at R'
        refine ⟨_, _, ?_, ⟨off + k, rem - k, _, _, _, rfl, by omega, R', rfl⟩, fun rec => by rw [hd, go rec, if_pos hc']⟩
        rw [← es, List.length_append, hq, ← hm, if_neg (show rem ≠ 0 by omega)]
        split <;> omega
  · rintro y ⟨⟨b', h', s', rfl, hR⟩, hy⟩
    exact ⟨b', h', s', hy, hR⟩
theorem f57v2.s2_ok (K : Nat) (m : List Int) (mn : Int) (k0 : Nat) (k1 : Nat) (n0 : Nat) (l0 : List Int) (n1 : Nat) (l1 : List Int) (hl : l0.length = n0) (ho : octets l0) (hn : n0 ≤ 1000000000000) (hK : 64 < K) (b s : List Int) (h : Int) (R : Sh.Rep m b h s) (hK2 : 2 * ((m.length % 64 + n0) / 64) + 1 < K) :
    ∃ b' h' s', iter (f57v2.s2 K) K (0, n0, b, h, mn, k0, k1, n0, l0, n1, l1, s) = some (b', h', mn, k0, k1, n0, l0, n1, l1, s') ∧ Sh.Rep (m ++ l0) b' h' s' := by
  subst hl
  refine Sh.take_all l0 (fun off rem b h s => (off, rem, b, h, mn, k0, k1, l0.length, l0, n1, l1, s)) (fun b h s => (b, h, mn, k0, k1, l0.length, l0, n1, l1, s)) (fun rec off b h s => ?_) (fun rec off rem b r k s hsum h0 hr hk hob => ?_) K m ho b s h R hK2
  · simp only [f57v2.s2, f57v2.s2t]
    rw [decide_eq_false (show ¬ (((0 : Nat) : Int) > 0) by omega), cond_f]
  · have e6 : (bif Nat.beq 64 r then 0 else r) = r := by rw [show Nat.beq 64 r = false from (by rw [← Bool.not_eq_true, Nat.beq_eq]; omega), cond_f]
    have e9 : Nat.min rem (64 - r) = k := hk
    simp only [f57v2.s2, f57v2.s2t]
    rw [decide_eq_true (show (((rem : Nat) : Int) > 0) by omega), cond_t, decide_eq_true (show (0 : Int) ≤ (r : Int) ∧ (r : Int) ≤ 64 by omega), cond_t]
    simp only [Int.toNat_natCast, e6, e9]
    rw [ble_true (show off + rem ≤ l0.length by omega), ble_true (show r + (64 - r) ≤ 64 by omega), show Nat.beq rem rem = true from Nat.beq_refl rem, Bool.and_self, Bool.and_self, Bool.and_self, cond_t, decide_eq_true (show (0 : Int) ≤ (k : Int) ∧ (k : Int) ≤ (rem : Int) by omega), cond_t,
      show IntKind.wrap .i64 ((r : Int) + (k : Int)) = ((r + k : Nat) : Int) by rw [wrap_i _ (by omega) (by omega)]; omega]
    by_cases hc : r + k = 64
    · rw [if_pos hc, show (((r + k : Nat) : Int) == 64) = true from beq_iff_eq.2 (by omega), cond_t, f90.spec K s _ _ mn hob hK, bind_s]
    · rw [if_neg hc, show (((r + k : Nat) : Int) == 64) = false from beq_eq_false_iff_ne.2 (by omega), cond_f]
theorem f57v2.s2b_ok (K : Nat) (m : List Int) (mn : Int) (k0 : Nat) (k1 : Nat) (n0 : Nat) (l0 : List Int) (n1 : Nat) (l1 : List Int) (hl : l1.length = n1) (ho : octets l1) (hn : n1 ≤ 1000000000000) (hK : 64 < K) (b s : List Int) (h : Int) (R : Sh.Rep m b h s) (hK2 : 2 * ((m.length % 64 + n1) / 64) + 1 < K) :
    ∃ b' h' s', iter (f57v2.s2b K) K (0, n1, b, h, mn, k0, k1, n0, l0, n1, l1, s) = some (b', h', mn, k0, k1, n0, l0, n1, l1, s') ∧ Sh.Rep (m ++ l1) b' h' s' := by
  subst hl
  refine Sh.take_all l1 (fun off rem b h s => (off, rem, b, h, mn, k0, k1, n0, l0, l1.length, l1, s)) (fun b h s => (b, h, mn, k0, k1, n0, l0, l1.length, l1, s)) (fun rec off b h s => ?_) (fun rec off rem b r k s hsum h0 hr hk hob => ?_) K m ho b s h R hK2
  · simp only [f57v2.s2b, f57v2.s2bt]
    rw [decide_eq_false (show ¬ (((0 : Nat) : Int) > 0) by omega), cond_f]
  · have e6 : (bif Nat.beq 64 r then 0 else r) = r := by rw [show Nat.beq 64 r = false from (by rw [← Bool.not_eq_true, Nat.beq_eq]; omega), cond_f]
    have e9 : Nat.min rem (64 - r) = k := hk
    simp only [f57v2.s2b, f57v2.s2bt]
    rw [decide_eq_true (show (((rem : Nat) : Int) > 0) by omega), cond_t, decide_eq_true (show (0 : Int) ≤ (r : Int) ∧ (r : Int) ≤ 64 by omega), cond_t]
    simp only [Int.toNat_natCast, e6, e9]
    rw [ble_true (show off + rem ≤ l1.length by omega), ble_true (show r + (64 - r) ≤ 64 by omega), show Nat.beq rem rem = true from Nat.beq_refl rem, Bool.and_self, Bool.and_self, Bool.and_self, cond_t, decide_eq_true (show (0 : Int) ≤ (k : Int) ∧ (k : Int) ≤ (rem : Int) by omega), cond_t,
      show IntKind.wrap .i64 ((r : Int) + (k : Int)) = ((r + k : Nat) : Int) by rw [wrap_i _ (by omega) (by omega)]; omega]
    by_cases hc : r + k = 64
    · rw [if_pos hc, show (((r + k : Nat) : Int) == 64) = true from beq_iff_eq.2 (by omega), cond_t, f90.spec K s _ _ mn hob hK, bind_s]
    · rw [if_neg hc, show (((r + k : Nat) : Int) == 64) = false from beq_eq_false_iff_ne.2 (by omega), cond_f]
theorem f57.s2_ok (K : Nat) (m : List Int) (mn : Int) (k0 : Nat) (n0 : Nat) (l0 : List Int) (hl : l0.length = n0) (ho : octets l0) (hn : n0 ≤ 1000000000000) (hK : 64 < K) (b s : List Int) (h : Int) (R : Sh.Rep m b h s) (hK2 : 2 * ((m.length % 64 + n0) / 64) + 1 < K) :
    ∃ b' h' s', iter (f57.s2 K) K (0, n0, b, h, mn, k0, n0, l0, s) = some (b', h', mn, k0, n0, l0, s') ∧ Sh.Rep (m ++ l0) b' h' s' := by
  subst hl
  refine Sh.take_all l0 (fun off rem b h s => (off, rem, b, h, mn, k0, l0.length, l0, s)) (fun b h s => (b, h, mn, k0, l0.length, l0, s)) (fun rec off b h s => ?_) (fun rec off rem b r k s hsum h0 hr hk hob => ?_) K m ho b s h R hK2
  · simp only [f57.s2, f57.s2t]
    rw [decide_eq_false (show ¬ (((0 : Nat) : Int) > 0) by omega), cond_f]
  · have e6 : (bif Nat.beq 64 r then 0 else r) = r := by rw [show Nat.beq 64 r = false from (by rw [← Bool.not_eq_true, Nat.beq_eq]; omega), cond_f]
    have e9 : Nat.min rem (64 - r) = k := hk
    simp only [f57.s2, f57.s2t]
    rw [decide_eq_true (show (((rem : Nat) : Int) > 0) by omega), cond_t, decide_eq_true (show (0 : Int) ≤ (r : Int) ∧ (r : Int) ≤ 64 by omega), cond_t]
    simp only [Int.toNat_natCast, e6, e9]
    rw [ble_true (show off + rem ≤ l0.length by omega), ble_true (show r + (64 - r) ≤ 64 by omega), show Nat.beq rem rem = true from Nat.beq_refl rem, Bool.and_self, Bool.and_self, Bool.and_self, cond_t, decide_eq_true (show (0 : Int) ≤ (k : Int) ∧ (k : Int) ≤ (rem : Int) by omega), cond_t,
      show IntKind.wrap .i64 ((r : Int) + (k : Int)) = ((r + k : Nat) : Int) by rw [wrap_i _ (by omega) (by omega)]; omega]
    by_cases hc : r + k = 64
    · rw [if_pos hc, show (((r + k : Nat) : Int) == 64) = true from beq_iff_eq.2 (by omega), cond_t, f90.spec K s _ _ mn hob hK, bind_s]
    · rw [if_neg hc, show (((r + k : Nat) : Int) == 64) = false from beq_eq_false_iff_ne.2 (by omega), cond_f]
theorem f57v1.s2_ok (K : Nat) (m : List Int) (mn : Int) (k0 : Nat) (k1 : Nat) (k2 : Nat) (n0 : Nat) (l0 : List Int) (n1 : Nat) (l1 : List Int) (n2 : Nat) (l2 : List Int) (hl : l0.length = n0) (ho : octets l0) (hn : n0 ≤ 1000000000000) (hK : 64 < K) (b s : List Int) (h : Int) (R : Sh.Rep m b h s) (hK2 : 2 * ((m.length % 64 + n0) / 64) + 1 < K) :
    ∃ b' h' s', iter (f57v1.s2 K) K (0, n0, b, h, mn, k0, k1, k2, n0, l0, n1, l1, n2, l2, s) = some (b', h', mn, k0, k1, k2, n0, l0, n1, l1, n2, l2, s') ∧ Sh.Rep (m ++ l0) b' h' s' := by
  subst hl
  refine Sh.take_all l0 (fun off rem b h s => (off, rem, b, h, mn, k0, k1, k2, l0.length, l0, n1, l1, n2, l2, s)) (fun b h s => (b, h, mn, k0, k1, k2, l0.length, l0, n1, l1, n2, l2, s)) (fun rec off b h s => ?_) (fun rec off rem b r k s hsum h0 hr hk hob => ?_) K m ho b s h R hK2
  · simp only [f57v1.s2, f57v1.s2t]
    rw [decide_eq_false (show ¬ (((0 : Nat) : Int) > 0) by omega), cond_f]
  · have e6 : (bif Nat.beq 64 r then 0 else r) = r := by rw [show Nat.beq 64 r = false from (by rw [← Bool.not_eq_true, Nat.beq_eq]; omega), cond_f]
    have e9 : Nat.min rem (64 - r) = k := hk
    simp only [f57v1.s2, f57v1.s2t]
    rw [decide_eq_true (show (((rem : Nat) : Int) > 0) by omega), cond_t, decide_eq_true (show (0 : Int) ≤ (r : Int) ∧ (r : Int) ≤ 64 by omega), cond_t]
    simp only [Int.toNat_natCast, e6, e9]
    rw [ble_true (show off + rem ≤ l0.length by omega), ble_true (show r + (64 - r) ≤ 64 by omega), show Nat.beq rem rem = true from Nat.beq_refl rem, Bool.and_self, Bool.and_self, Bool.and_self, cond_t, decide_eq_true (show (0 : Int) ≤ (k : Int) ∧ (k : Int) ≤ (rem : Int) by omega), cond_t,
      show IntKind.wrap .i64 ((r : Int) + (k : Int)) = ((r + k : Nat) : Int) by rw [wrap_i _ (by omega) (by omega)]; omega]
    by_cases hc : r + k = 64
    · rw [if_pos hc, show (((r + k : Nat) : Int) == 64) = true from beq_iff_eq.2 (by omega), cond_t, f90.spec K s _ _ mn hob hK, bind_s]
    · rw [if_neg hc, show (((r + k : Nat) : Int) == 64) = false from beq_eq_false_iff_ne.2 (by omega), cond_f]
theorem f57v1.s2b_ok (K : Nat) (m : List Int) (mn : Int) (k0 : Nat) (k1 : Nat) (k2 : Nat) (n0 : Nat) (l0 : List Int) (n1 : Nat) (l1 : List Int) (n2 : Nat) (l2 : List Int) (hl : l1.length = n1) (ho : octets l1) (hn : n1 ≤ 1000000000000) (hK : 64 < K) (b s : List Int) (h : Int) (R : Sh.Rep m b h s) (hK2 : 2 * ((m.length % 64 + n1) / 64) + 1 < K) :
    ∃ b' h' s', iter (f57v1.s2b K) K (0, n1, b, h, mn, k0, k1, k2, n0, l0, n1, l1, n2, l2, s) = some (b', h', mn, k0, k1, k2, n0, l0, n1, l1, n2, l2, s') ∧ Sh.Rep (m ++ l1) b' h' s' := by
  subst hl
  refine Sh.take_all l1 (fun off rem b h s => (off, rem, b, h, mn, k0, k1, k2, n0, l0, l1.length, l1, n2, l2, s)) (fun b h s => (b, h, mn, k0, k1, k2, n0, l0, l1.length, l1, n2, l2, s)) (fun rec off b h s => ?_) (fun rec off rem b r k s hsum h0 hr hk hob => ?_) K m ho b s h R hK2
  · simp only [f57v1.s2b, f57v1.s2bt]
    rw [decide_eq_false (show ¬ (((0 : Nat) : Int) > 0) by omega), cond_f]
  · have e6 : (bif Nat.beq 64 r then 0 else r) = r := by rw [show Nat.beq 64 r = false from (by rw [← Bool.not_eq_true, Nat.beq_eq]; omega), cond_f]
    have e9 : Nat.min rem (64 - r) = k := hk
    simp only [f57v1.s2b, f57v1.s2bt]
    rw [decide_eq_true (show (((rem : Nat) : Int) > 0) by omega), cond_t, decide_eq_true (show (0 : Int) ≤ (r : Int) ∧ (r : Int) ≤ 64 by omega), cond_t]
    simp only [Int.toNat_natCast, e6, e9]
    rw [ble_true (show off + rem ≤ l1.length by omega), ble_true (show r + (64 - r) ≤ 64 by omega), show Nat.beq rem rem = true from Nat.beq_refl rem, Bool.and_self, Bool.and_self, Bool.and_self, cond_t, decide_eq_true (show (0 : Int) ≤ (k : Int) ∧ (k : Int) ≤ (rem : Int) by omega), cond_t,
      show IntKind.wrap .i64 ((r : Int) + (k : Int)) = ((r + k : Nat) : Int) by rw [wrap_i _ (by omega) (by omega)]; omega]
    by_cases hc : r + k = 64
    · rw [if_pos hc, show (((r + k : Nat) : Int) == 64) = true from beq_iff_eq.2 (by omega), cond_t, f90.spec K s _ _ mn hob hK, bind_s]
    · rw [if_neg hc, show (((r + k : Nat) : Int) == 64) = false from beq_eq_false_iff_ne.2 (by omega), cond_f]
theorem f57v1.s2c_ok (K : Nat) (m : List Int) (mn : Int) (k0 : Nat) (k1 : Nat) (k2 : Nat) (n0 : Nat) (l0 : List Int) (n1 : Nat) (l1 : List Int) (n2 : Nat) (l2 : List Int) (hl : l2.length = n2) (ho : octets l2) (hn : n2 ≤ 1000000000000) (hK : 64 < K) (b s : List Int) (h : Int) (R : Sh.Rep m b h s) (hK2 : 2 * ((m.length % 64 + n2) / 64) + 1 < K) :
    ∃ b' h' s', iter (f57v1.s2c K) K (0, n2, b, h, mn, k0, k1, k2, n0, l0, n1, l1, n2, l2, s) = some (b', h', mn, k0, k1, k2, n0, l0, n1, l1, n2, l2, s') ∧ Sh.Rep (m ++ l2) b' h' s' := by
  subst hl
  refine Sh.take_all l2 (fun off rem b h s => (off, rem, b, h, mn, k0, k1, k2, n0, l0, n1, l1, l2.length, l2, s)) (fun b h s => (b, h, mn, k0, k1, k2, n0, l0, n1, l1, l2.length, l2, s)) (fun rec off b h s => ?_) (fun rec off rem b r k s hsum h0 hr hk hob => ?_) K m ho b s h R hK2
  · simp only [f57v1.s2c, f57v1.s2ct]
    rw [decide_eq_false (show ¬ (((0 : Nat) : Int) > 0) by omega), cond_f]
  · have e6 : (bif Nat.beq 64 r then 0 else r) = r := by rw [show Nat.beq 64 r = false from (by rw [← Bool.not_eq_true, Nat.beq_eq]; omega), cond_f]
    have e9 : Nat.min rem (64 - r) = k := hk
    simp only [f57v1.s2c, f57v1.s2ct]
    rw [decide_eq_true (show (((rem : Nat) : Int) > 0) by omega), cond_t, decide_eq_true (show (0 : Int) ≤ (r : Int) ∧ (r : Int) ≤ 64 by omega), cond_t]
    simp only [Int.toNat_natCast, e6, e9]
    rw [ble_true (show off + rem ≤ l2.length by omega), ble_true (show r + (64 - r) ≤ 64 by omega), show Nat.beq rem rem = true from Nat.beq_refl rem, Bool.and_self, Bool.and_self, Bool.and_self, cond_t, decide_eq_true (show (0 : Int) ≤ (k : Int) ∧ (k : Int) ≤ (rem : Int) by omega), cond_t,
      show IntKind.wrap .i64 ((r : Int) + (k : Int)) = ((r + k : Nat) : Int) by rw [wrap_i _ (by omega) (by omega)]; omega]
    by_cases hc : r + k = 64
    · rw [if_pos hc, show (((r + k : Nat) : Int) == 64) = true from beq_iff_eq.2 (by omega), cond_t, f90.spec K s _ _ mn hob hK, bind_s]
    · rw [if_neg hc, show (((r + k : Nat) : Int) == 64) = false from beq_eq_false_iff_ne.2 (by omega), cond_f]
theorem f57v2.spec (K : Nat) (m : List Int) (n0 : Nat) (l0 : List Int) (n1 : Nat) (l1 : List Int) (e0 : l0.length = n0) (o0 : octets l0) (z0 : n0 ≤ 1000000000000) (e1 : l1.length = n1) (o1 : octets l1) (z1 : n1 ≤ 1000000000000) (b s : List Int) (h : Int) (R : Sh.Rep m b h s) (hK : 64 + n0 + n1 < K) :
    ∃ b' h' s', f57v2.F K (b, h, ((m.length % 18446744073709551616 : Nat) : Int), n0, n1, s, n0, l0, n1, l1) = some (b', h', (((m ++ l0 ++ l1).length % 18446744073709551616 : Nat) : Int), n0, n1, n0, l0, n1, l1, s') ∧ Sh.Rep (m ++ l0 ++ l1) b' h' s' := by
  simp only [f57v2.F, f57v2.T]
  rw [tot_add]
  obtain ⟨b0, h0, s0, i0, R0⟩ := f57v2.s2_ok K (m) ((((m).length + n0) % 18446744073709551616 : Nat) : Int) n0 n1 n0 l0 n1 l1 e0 o0 z0 (by omega) _ _ _ R (by omega)
  rw [i0, bind_s]
  simp only []
  rw [show (m).length + n0 = (m ++ l0).length from by simp only [List.length_append]; omega]
  rw [tot_add]
  obtain ⟨b1, h1, s1, i1, R1⟩ := f57v2.s2b_ok K (m ++ l0) ((((m ++ l0).length + n1) % 18446744073709551616 : Nat) : Int) n0 n1 n0 l0 n1 l1 e1 o1 z1 (by omega) _ _ _ R0 (by omega)
  rw [i1, bind_s]
  simp only []
  rw [show (m ++ l0).length + n1 = (m ++ l0 ++ l1).length from by simp only [List.length_append]; omega]
  exact ⟨b1, h1, s1, rfl, R1⟩
theorem f57.spec (K : Nat) (m : List Int) (n0 : Nat) (l0 : List Int) (e0 : l0.length = n0) (o0 : octets l0) (z0 : n0 ≤ 1000000000000) (b s : List Int) (h : Int) (R : Sh.Rep m b h s) (hK : 64 + n0 < K) :
    ∃ b' h' s', f57.F K (b, h, ((m.length % 18446744073709551616 : Nat) : Int), n0, s, n0, l0) = some (b', h', (((m ++ l0).length % 18446744073709551616 : Nat) : Int), n0, n0, l0, s') ∧ Sh.Rep (m ++ l0) b' h' s' := by
  simp only [f57.F, f57.T]
  rw [tot_add]
  obtain ⟨b0, h0, s0, i0, R0⟩ := f57.s2_ok K (m) ((((m).length + n0) % 18446744073709551616 : Nat) : Int) n0 n0 l0 e0 o0 z0 (by omega) _ _ _ R (by omega)
  rw [i0, bind_s]
  simp only []
  rw [show (m).length + n0 = (m ++ l0).length from by simp only [List.length_append]; omega]
  exact ⟨b0, h0, s0, rfl, R0⟩
theorem f57v1.spec (K : Nat) (m : List Int) (n0 : Nat) (l0 : List Int) (n1 : Nat) (l1 : List Int) (n2 : Nat) (l2 : List Int) (e0 : l0.length = n0) (o0 : octets l0) (z0 : n0 ≤ 1000000000000) (e1 : l1.length = n1) (o1 : octets l1) (z1 : n1 ≤ 1000000000000) (e2 : l2.length = n2) (o2 : octets l2) (z2 : n2 ≤ 1000000000000) (b s : List Int) (h : Int) (R : Sh.Rep m b h s) (hK : 64 + n0 + n1 + n2 < K) :
    ∃ b' h' s', f57v1.F K (b, h, ((m.length % 18446744073709551616 : Nat) : Int), n0, n1, n2, s, n0, l0, n1, l1, n2, l2) = some (b', h', (((m ++ l0 ++ l1 ++ l2).length % 18446744073709551616 : Nat) : Int), n0, n1, n2, n0, l0, n1, l1, n2, l2, s') ∧ Sh.Rep (m ++ l0 ++ l1 ++ l2) b' h' s' := by
  simp only [f57v1.F, f57v1.T]
  rw [tot_add]
  obtain ⟨b0, h0, s0, i0, R0⟩ := f57v1.s2_ok K (m) ((((m).length + n0) % 18446744073709551616 : Nat) : Int) n0 n1 n2 n0 l0 n1 l1 n2 l2 e0 o0 z0 (by omega) _ _ _ R (by omega)
  rw [i0, bind_s]
  simp only []
  rw [show (m).length + n0 = (m ++ l0).length from by simp only [List.length_append]; omega]
  rw [tot_add]
  obtain ⟨b1, h1, s1, i1, R1⟩ := f57v1.s2b_ok K (m ++ l0) ((((m ++ l0).length + n1) % 18446744073709551616 : Nat) : Int) n0 n1 n2 n0 l0 n1 l1 n2 l2 e1 o1 z1 (by omega) _ _ _ R0 (by omega)
  rw [i1, bind_s]
  simp only []
  rw [show (m ++ l0).length + n1 = (m ++ l0 ++ l1).length from by simp only [List.length_append]; omega]
  rw [tot_add]
  obtain ⟨b2, h2, s2, i2, R2⟩ := f57v1.s2c_ok K (m ++ l0 ++ l1) ((((m ++ l0 ++ l1).length + n2) % 18446744073709551616 : Nat) : Int) n0 n1 n2 n0 l0 n1 l1 n2 l2 e2 o2 z2 (by omega) _ _ _ R1 (by omega)
  rw [i2, bind_s]
  simp only []
  rw [show (m ++ l0 ++ l1).length + n2 = (m ++ l0 ++ l1 ++ l2).length from by simp only [List.length_append]; omega]
  exact ⟨b2, h2, s2, rfl, R2⟩
end Go.Proofs

namespace Go.Proofs
open Go.VM
abbrev f51.Ty0 := List Int × List Int × Int × Int
abbrev f51.Ty1 := List Int × Int × Int × List Int
def f51.T (K : Nat) (m0_0 : List Int) (m0_1 : Int) (m0_2 : Int) (m1 : List Int) : Option (f51.Ty0) :=
  let v2 := Int.tmod (IntKind.wrap .i64 (119 - m0_1)) 64
  bif lenOK v2 v2 1 then
    let v3 := Int.toNat v2
    (f59.F K (0, (IntKind.wrap .u64 (8 * m0_2)), 8, 0, [])).bind fun y7 =>
    bif ((Nat.ble (0 + v3) (Int.toNat v2) && (Nat.ble v3 (Int.toNat v2))) && ((Nat.ble (0 + y7.1) y7.2.2.2.2.1 && (Nat.ble y7.1 y7.2.1)) && true)) then
      (f57v1.F K (m0_0, m0_1, m0_2, 1, v3, y7.1, m1, 1, [128], v3, (subI [] 0 v3), y7.1, (subI y7.2.2.2.2.2 0 y7.1))).bind fun y8 =>
      (f59.F K (0, (IntKind.wrap .u64 (List.getD y8.2.2.2.2.2.2.2.2.2.2.2.2 0 0)), 4, 0, [])).bind fun y11 =>
      bif ((Nat.ble (0 + y11.1) y11.2.2.2.2.1 && (Nat.ble y11.1 y11.2.1)) && true) then
        (f59.F K (y11.1, (IntKind.wrap .u64 (List.getD y8.2.2.2.2.2.2.2.2.2.2.2.2 1 0)), 4, y11.1, (subI y11.2.2.2.2.2 0 y11.1))).bind fun y14 =>
        bif ((Nat.ble (0 + y14.1) y14.2.2.2.2.1 && (Nat.ble y14.1 y14.2.1)) && true) then
          (f59.F K (y14.1, (IntKind.wrap .u64 (List.getD y8.2.2.2.2.2.2.2.2.2.2.2.2 2 0)), 4, y14.1, (subI y14.2.2.2.2.2 0 y14.1))).bind fun y17 =>
          bif ((Nat.ble (0 + y17.1) y17.2.2.2.2.1 && (Nat.ble y17.1 y17.2.1)) && true) then
            (f59.F K (y17.1, (IntKind.wrap .u64 (List.getD y8.2.2.2.2.2.2.2.2.2.2.2.2 3 0)), 4, y17.1, (subI y17.2.2.2.2.2 0 y17.1))).bind fun y20 =>
            bif ((Nat.ble (0 + y20.1) y20.2.2.2.2.1 && (Nat.ble y20.1 y20.2.1)) && true) then
              (f59.F K (y20.1, (IntKind.wrap .u64 (List.getD y8.2.2.2.2.2.2.2.2.2.2.2.2 4 0)), 4, y20.1, (subI y20.2.2.2.2.2 0 y20.1))).bind fun y23 =>
              bif ((Nat.ble (0 + y23.1) y23.2.2.2.2.1 && (Nat.ble y23.1 y23.2.1)) && true) then
                (f59.F K (y23.1, (IntKind.wrap .u64 (List.getD y8.2.2.2.2.2.2.2.2.2.2.2.2 5 0)), 4, y23.1, (subI y23.2.2.2.2.2 0 y23.1))).bind fun y26 =>
                bif ((Nat.ble (0 + y26.1) y26.2.2.2.2.1 && (Nat.ble y26.1 y26.2.1)) && true) then
                  (f59.F K (y26.1, (IntKind.wrap .u64 (List.getD y8.2.2.2.2.2.2.2.2.2.2.2.2 6 0)), 4, y26.1, (subI y26.2.2.2.2.2 0 y26.1))).bind fun y29 =>
                  bif ((Nat.ble (0 + y29.1) y29.2.2.2.2.1 && (Nat.ble y29.1 y29.2.1)) && true) then
                    (f59.F K (y29.1, (IntKind.wrap .u64 (List.getD y8.2.2.2.2.2.2.2.2.2.2.2.2 7 0)), 4, y29.1, (subI y29.2.2.2.2.2 0 y29.1))).bind fun y32 =>
                    bif ((Nat.ble (0 + y32.1) y32.2.2.2.2.1 && true) && (Nat.beq y32.1 y32.1)) then
                      some ((spl [0, 0, 0, 0, 0, 0, 0, 0, 0, 0, 0, 0, 0, 0, 0, 0, 0, 0, 0, 0, 0, 0, 0, 0, 0, 0, 0, 0, 0, 0, 0, 0] 0 (Nat.min y32.1 32) (subI y32.2.2.2.2.2 0 y32.1)), m0_0, m0_1, m0_2)
                    else
                      none
                  else
                    none
                else
                  none
              else
                none
            else
              none
          else
            none
        else
          none
      else
        none
    else
      none
  else
    none
def f51.F (K : Nat) (x : f51.Ty1) : Option (f51.Ty0) := f51.T K x.1 x.2.1 x.2.2.1 x.2.2.2
def f51.av (_x : f51.Ty1) : List VV := [.ptr 0 0]
def f51.bl (x : f51.Ty1) : List (Nat × Blk) := [(0, ([.ptr 1 0, .ints .u8 64 x.1, .int .i64 x.2.1, .int .u64 x.2.2.1], 117, .norm)), (1, ([.ints .u32 8 x.2.2.2], 113, .norm))]
def f51.inA : VS → Option (f51.Ty1)
  | ⟨[(0, .ptr 0 0)], [(0, ([.ptr 1 0, .ints .u8 64 m0_0, .int .i64 m0_1, .int .u64 m0_2], 117, .norm)), (1, ([.ints .u32 8 m1], 113, .norm))], 2⟩ => some (m0_0, m0_1, m0_2, m1)
  | _ => none
def f51.o0 (y : f51.Ty0) : VS := ⟨[(0, .agg [.ints .u8 32 y.1])], [(0, ([.ptr 1 0, .ints .u8 64 y.2.1, .int .i64 y.2.2.1, .int .u64 y.2.2.2], 117, .norm)), (1, ([], 113, .dead))], 2⟩
def f51.inR : VS → Option (f51.Ty0)
  | ⟨[(0, .agg [.ints .u8 32 y])], [(0, ([.ptr 1 0, .ints .u8 64 z0_0, .int .i64 z0_1, .int .u64 z0_2], 117, .norm)), (1, ([], 113, .dead))], 2⟩ => some (y, z0_0, z0_1, z0_2)
  | _ => none
noncomputable def f51.E (K : Nat) : Entry := genE 2 f51.inA (f51.F K) (dv1 f51.o0)
theorem f51.ok (K : Nat) : EntryOK Try.prog 51 (f51.E K) := gen_ok mix tys_ok (sp := tabSp [(59, (viewE [(0, .u8)] (f59.E K))), (57, (rowsE 1 .u8 (f57v1.E K)))]) (tab_ok ((tab_cons (view_ok (f59.ok K)) (tab_cons (rows_ok (f57v1.ok K)) tab_nil)))) Try.func51 (c := bodyOf Try.f51) (by kernel_rfl) (by kernel_rfl) (loops_none (lp := lpNone) (by kernel_rfl)) (av := f51.av) (bl := f51.bl) (inR := f51.inR) (out := f51.o0) (fuel := 400)
  (by intro s x h; unfold f51.inA at h; split at h <;> simp at h; subst h; rfl) (fun _ => Nat.le_of_ble_eq_true rfl)
  (by intro s y h; unfold f51.inR at h; split at h <;> simp at h <;> subst h <;> rfl) (fun _ _ _ => rfl) (fun _ => by kernel_rfl)
end Go.Proofs

namespace Go.Proofs
open Go.VM
abbrev f91.Ty0 := Nat × Nat × Int × Nat × List Int
abbrev f91.Ty1 := Nat × Nat × Nat × List Int
abbrev f91.Ty2 := Nat × Nat × List Int
def f91.T (_K : Nat) (a0_0 : Nat) (a0_1 : Nat) (a1 : Int) (m0_0 : Nat) (m0_1 : List Int) : Option ((f91.Ty2) ⊕ (f91.Ty1)) :=
  bif (decide (a1 < 0)) then
    none
  else
    let v5 := IntKind.wrap .i64 (a1 - (IntKind.wrap .i64 (((a0_1 : Nat) : Int) - ((a0_0 : Nat) : Int))))
    bif (decide (v5 > 0)) then
      let v7 := ((a0_1 : Nat) : Int)
      bif (decide (0 ≤ v7 ∧ v7 ≤ ((a0_1 : Nat) : Int)) && true) then
        let v8 := Int.toNat v7
        bif ((((decide (0 ≤ v5) && (fitB ((Int.toNat v5) * 1))) && (Nat.ble v8 m0_0)) && (Nat.ble a0_1 m0_0)) && (fitB ((v8 + (Int.toNat v5)) * 1))) then
          let v9 := v8 + (Int.toNat v5)
          let v10 := v8 + (Int.toNat v5)
          let v12 := ((a0_0 : Nat) : Int)
          bif (decide (0 ≤ v12 ∧ v12 ≤ ((v9 : Nat) : Int)) && (Nat.ble (0 + v9) v10)) then
            some (.inl ((Int.toNat v12), v10, ((padT m0_1 v8) ++ (padT [] (Int.toNat v5)))))
          else
            none
        else
          none
      else
        none
    else
      some (.inr (a0_0, a0_1, m0_0, m0_1))
def f91.F (K : Nat) (x : f91.Ty0) : Option ((f91.Ty2) ⊕ (f91.Ty1)) := f91.T K x.1 x.2.1 x.2.2.1 x.2.2.2.1 x.2.2.2.2
def f91.av (x : f91.Ty0) : List VV := [.sl 0 0 x.1 x.2.1, .int .i64 x.2.2.1]
def f91.bl (x : f91.Ty0) : List (Nat × Blk) := [(0, ([.ints .u8 x.2.2.2.1 x.2.2.2.2], 5, .norm))]
def f91.inA : VS → Option (f91.Ty0)
  | ⟨[(0, .sl 0 0 a0_0 a0_1), (1, .int .i64 a1)], [(0, ([.ints .u8 m0_0 m0_1], 5, .norm))], 1⟩ => some (a0_0, a0_1, a1, m0_0, m0_1)
  | _ => none
def f91.o0 (y : f91.Ty2) : VS := ⟨[(0, .vec 1 0 y.1 2)], [(0, ([], 5, .dead)), (1, ([.ints .u8 y.2.1 y.2.2], 5, .vec 2))], 3⟩
def f91.o1 (y : f91.Ty1) : VS := ⟨[(0, .sl 0 0 y.1 y.2.1)], [(0, ([.ints .u8 y.2.2.1 y.2.2.2], 5, .norm))], 1⟩
def f91.inR : VS → Option ((f91.Ty2) ⊕ (f91.Ty1))
  | ⟨[(0, .vec 1 0 y 2)], [(0, ([], 5, .dead)), (1, ([.ints .u8 z1_0 z1_1], 5, .vec 2))], 3⟩ => some (.inl (y, z1_0, z1_1))
  | ⟨[(0, .sl 0 0 y_0 y_1)], [(0, ([.ints .u8 z0_0 z0_1], 5, .norm))], 1⟩ => some (.inr (y_0, y_1, z0_0, z0_1))
  | _ => none
noncomputable def f91.E (K : Nat) : Entry := genE 1 f91.inA (f91.F K) (dvA (dv1 f91.o0) (dv1 f91.o1))
theorem f91.ok (K : Nat) : EntryOK Try.prog 91 (f91.E K) := gen_ok mix tys_ok (tab_ok ( tab_nil)) Try.func91 (c := bodyOf Try.f91) (by kernel_rfl) (by kernel_rfl) (loops_none (lp := lpNone) (by kernel_rfl)) (av := f91.av) (bl := f91.bl) (inR := f91.inR) (out := (alt f91.o0 f91.o1)) (fuel := 400)
  (by intro s x h; unfold f91.inA at h; split at h <;> simp at h; subst h; rfl) (fun _ => Nat.le_of_ble_eq_true rfl)
  (by intro s y h; unfold f91.inR at h; split at h <;> simp at h <;> subst h <;> rfl) (dvA_ok (fun _ _ _ => rfl) (fun _ _ _ => rfl)) (fun _ => by kernel_rfl)
end Go.Proofs

namespace Go.Proofs
open Go.VM
abbrev f93.Ty0 := Nat × Nat × List Int
def f93.T (_K : Nat) (a0 : Nat) (m0_0 : Nat) (m0_1 : List Int) : Option (f93.Ty0) :=
  let v1 := ((a0 : Nat) : Int)
  let v2 := ((a0 : Nat) : Int)
  bif (((decide (0 ≤ v2 ∧ v2 ≤ ((a0 : Nat) : Int)) && (decide (0 ≤ v1 ∧ v1 ≤ ((Int.toNat v2 : Nat) : Int)))) && true) && (Nat.ble (0 + a0) m0_0)) then
    some ((Int.toNat v1), m0_0, m0_1)
  else
    none
def f93.F (K : Nat) (x : f93.Ty0) : Option (f93.Ty0) := f93.T K x.1 x.2.1 x.2.2
def f93.av (x : f93.Ty0) : List VV := [.vec 0 0 x.1 1]
def f93.bl (x : f93.Ty0) : List (Nat × Blk) := [(0, ([.ints .u8 x.2.1 x.2.2], 5, .vec 1))]
def f93.inA : VS → Option (f93.Ty0)
  | ⟨[(0, .vec 0 0 a0 1)], [(0, ([.ints .u8 m0_0 m0_1], 5, .vec 1))], 2⟩ => some (a0, m0_0, m0_1)
  | _ => none
def f93.o0 (y : f93.Ty0) : VS := ⟨[(0, .vw false 0 0 y.1 2)], [(0, ([.ints .u8 y.2.1 y.2.2], 5, .vec 1))], 3⟩
def f93.inR : VS → Option (f93.Ty0)
  | ⟨[(0, .vw false 0 0 y 2)], [(0, ([.ints .u8 z0_0 z0_1], 5, .vec 1))], 3⟩ => some (y, z0_0, z0_1)
  | _ => none
noncomputable def f93.E (K : Nat) : Entry := genE 2 f93.inA (f93.F K) (dv1 f93.o0)
theorem f93.ok (K : Nat) : EntryOK Try.prog 93 (f93.E K) := gen_ok mix tys_ok (tab_ok ( tab_nil)) Try.func93 (c := bodyOf Try.f93) (by kernel_rfl) (by kernel_rfl) (loops_none (lp := lpNone) (by kernel_rfl)) (av := f93.av) (bl := f93.bl) (inR := f93.inR) (out := f93.o0) (fuel := 400)
  (by intro s x h; unfold f93.inA at h; split at h <;> simp at h; subst h; rfl) (fun _ => Nat.le_of_ble_eq_true rfl)
  (by intro s y h; unfold f93.inR at h; split at h <;> simp at h <;> subst h <;> rfl) (fun _ _ _ => rfl) (fun _ => by kernel_rfl)
end Go.Proofs

namespace Go.Proofs
open Go.VM
abbrev f58.Ty0 := Nat × Nat × List Int × Nat × List Int × Nat × List Int
abbrev f58.Ty1 := Nat × Nat × Nat × List Int × Nat × List Int
def f58.T (K : Nat) (a0 : Nat) (a1 : Nat) (m0_0 : Nat) (m0_1 : List Int) (m2_0 : Nat) (m2_1 : List Int) : Option (f58.Ty0) :=
  bif ((Nat.ble (0 + a0) m0_0 && true) && true) then
    (f92.F K (a0, 4, 1, a0, (subI m0_1 0 a0), 1, [(IntKind.wrap .u64 ((a1 : Nat) : Int))])).bind fun y3 =>
    (f91.F K (y3.1, y3.2.1, ((a1 : Nat) : Int), y3.2.2.2.2.2.2.1, y3.2.2.2.2.2.2.2)).bind fun y5 =>
    alt (fun y6 =>
      bif ((Nat.ble (0 + a1) m2_0 && (Nat.ble y6.1 y6.2.1)) && (fitB ((y6.1 + a1) * 1))) then
        (f93.F K ((y6.1 + a1), (y6.1 + a1), ((padT y6.2.2 y6.1) ++ (padT (subI m2_1 0 a1) a1)))).bind fun y9 =>
        some (y9.1, m0_0, m0_1, m2_0, m2_1, y9.2.1, y9.2.2)
      else
        none) (fun y7 =>
      bif (((Nat.ble (0 + a1) m2_0 && (Nat.ble y7.1 y7.2.2.1)) && (Nat.ble y7.2.1 y7.2.2.1)) && (fitB ((y7.1 + a1) * 1))) then
        (f93.F K ((y7.1 + a1), (y7.1 + a1), ((padT y7.2.2.2 y7.1) ++ (padT (subI m2_1 0 a1) a1)))).bind fun y11 =>
        some (y11.1, m0_0, m0_1, m2_0, m2_1, y11.2.1, y11.2.2)
      else
        none) y5
  else
    none
def f58.F (K : Nat) (x : f58.Ty1) : Option (f58.Ty0) := f58.T K x.1 x.2.1 x.2.2.1 x.2.2.2.1 x.2.2.2.2.1 x.2.2.2.2.2
def f58.av (x : f58.Ty1) : List VV := [.vw true 0 0 x.1 1, .vw true 2 0 x.2.1 3]
def f58.bl (x : f58.Ty1) : List (Nat × Blk) := [(0, ([.ints .u8 x.2.2.1 x.2.2.2.1], 0, .ro)), (2, ([.ints .u8 x.2.2.2.2.1 x.2.2.2.2.2], 0, .ro))]
def f58.inA : VS → Option (f58.Ty1)
  | ⟨[(0, .vw true 0 0 a0 1), (1, .vw true 2 0 a1 3)], [(0, ([.ints .u8 m0_0 m0_1], 0, .ro)), (2, ([.ints .u8 m2_0 m2_1], 0, .ro))], 4⟩ => some (a0, a1, m0_0, m0_1, m2_0, m2_1)
  | _ => none
def f58.o0 (y : f58.Ty0) : VS := ⟨[(0, .vw false 4 0 y.1 5)], [(0, ([.ints .u8 y.2.1 y.2.2.1], 0, .ro)), (2, ([.ints .u8 y.2.2.2.1 y.2.2.2.2.1], 0, .ro)), (4, ([.ints .u8 y.2.2.2.2.2.1 y.2.2.2.2.2.2], 5, .vec 6))], 7⟩
def f58.inR : VS → Option (f58.Ty0)
  | ⟨[(0, .vw false 4 0 y 5)], [(0, ([.ints .u8 z0_0 z0_1], 0, .ro)), (2, ([.ints .u8 z2_0 z2_1], 0, .ro)), (4, ([.ints .u8 z4_0 z4_1], 5, .vec 6))], 7⟩ => some (y, z0_0, z0_1, z2_0, z2_1, z4_0, z4_1)
  | _ => none
noncomputable def f58.E (K : Nat) : Entry := genE 4 f58.inA (f58.F K) (dv1 f58.o0)
theorem f58.ok (K : Nat) : EntryOK Try.prog 58 (f58.E K) := gen_ok mix tys_ok (sp := tabSp [(92, (viewE [(0, .u8), (2, .u64)] (f92.E K))), (91, (f91.E K)), (93, (f93.E K))]) (tab_ok ((tab_cons (view_ok (f92.ok K)) (tab_cons (f91.ok K) (tab_cons (f93.ok K) tab_nil))))) Try.func58 (c := bodyOf Try.f58) (by kernel_rfl) (by kernel_rfl) (loops_none (lp := lpNone) (by kernel_rfl)) (av := f58.av) (bl := f58.bl) (inR := f58.inR) (out := f58.o0) (fuel := 400)
  (by intro s x h; unfold f58.inA at h; split at h <;> simp at h; subst h; rfl) (fun _ => Nat.le_of_ble_eq_true rfl)
  (by intro s y h; unfold f58.inR at h; split at h <;> simp at h <;> subst h <;> rfl) (fun _ _ _ => rfl) (fun _ => by kernel_rfl)
end Go.Proofs

namespace Go.Proofs
open Go.VM
def Sh.frame (p : List Int) : List Int := be 4 p.length ++ p
theorem strL_length (s : ByteArray) : (strL s).length = s.size := by simp [strL]
theorem strL_octets (s : ByteArray) : octets (strL s) := by
  intro x hx
  simp only [strL, List.mem_map] at hx
  obtain ⟨b, _, rfl⟩ := hx
  have := b.toNat_lt
  omega
theorem frame_octets {p : List Int} (h : octets p) : octets (Sh.frame p) := octets_append (be_octets _ _) h
theorem frame_length (p : List Int) : (Sh.frame p).length = 4 + p.length := by rw [Sh.frame, List.length_append, be_length]
theorem f93.spec (K n : Nat) (l : List Int) : f93.F K (n, n, l) = some (n, n, l) := by
  simp only [f93.F, f93.T, Int.toNat_natCast]
  rw [decide_eq_true (show (0 : Int) ≤ (n : Int) ∧ (n : Int) ≤ (n : Int) by omega), Bool.and_self, Bool.and_self, Nat.zero_add, ble_true (Nat.le_refl n), Bool.and_self, cond_t]
theorem f91.spec (K a n : Nat) (l : List Int) (hl : l.length = a) (hs : a + n ≤ 100000000000000) : f91.F K (a, a, (n : Int), a, l) = some (if n = 0 then .inr (a, a, a, l) else .inl (a, a + n, l ++ padT [] n)) := by
  have e : IntKind.wrap .i64 ((n : Int) - (IntKind.wrap .i64 (((a : Nat) : Int) - ((a : Nat) : Int)))) = (n : Int) := by
    rw [show ((a : Nat) : Int) - ((a : Nat) : Int) = 0 by omega, wrap_i 0 (by omega) (by omega), wrap_i _ (by omega) (by omega)]; omega
  simp only [f91.F, f91.T, e, Int.toNat_natCast]
  rw [decide_eq_false (show ¬ (n : Int) < 0 by omega), cond_f]
  rcases Nat.eq_zero_or_pos n with h | h
  · subst h
    rw [decide_eq_false (show ¬ (((0 : Nat) : Int) > 0) by omega), cond_f, if_pos rfl]
  · rw [decide_eq_true (show ((n : Int) > 0) by omega), cond_t, decide_eq_true (show (0 : Int) ≤ (a : Int) ∧ (a : Int) ≤ (a : Int) by omega), Bool.and_self, cond_t, decide_eq_true (show (0 : Int) ≤ (n : Int) by omega), fitB_true (by omega), ble_true (Nat.le_refl a), fitB_true (by omega), Bool.and_self, Bool.and_self, Bool.and_self, Bool.and_self, cond_t,
      decide_eq_true (show (0 : Int) ≤ (a : Int) ∧ (a : Int) ≤ ((a + n : Nat) : Int) by omega), Nat.zero_add, ble_true (Nat.le_refl _), Bool.and_self, cond_t, if_neg (by omega), padT_self l hl]
theorem f58.spec (K a n : Nat) (l p : List Int) (hl : l.length = a) (hp : p.length = n) (hn : n ≤ 1000000000000) (ha : a ≤ 1000000000) :
    f58.F K (a, n, a, l, n, p) = some (a + 4 + n, a, l, n, p, a + 4 + n, l ++ Sh.frame p) := by
  have h0 : IntKind.wrap .u64 ((n : Nat) : Int) = (n : Int) := wrap_u _ (by omega) (by omega)
  have e2 := f92.spec K a 4 1 l [n] hl rfl (by intro x hx; simp only [List.mem_singleton] at hx; omega) (by omega) (by omega) (by omega)
  simp only [List.map_cons, List.map_nil, List.flatMap_cons, List.flatMap_nil, List.append_nil, Nat.mul_one] at e2
  have hl4 : (l ++ be 4 n).length = a + 4 := by rw [List.length_append, be_length, hl]
  simp only [f58.F, f58.T]
  rw [Nat.zero_add, ble_true (Nat.le_refl a), Bool.and_self, Bool.and_self, cond_t, subI_self l hl, h0, show ((4 : Int)) = ((4 : Nat) : Int) from rfl, e2, bind_s]
  simp only []
  rw [f91.spec K (a + 4) n _ hl4 (by omega), bind_s]
  rcases Nat.eq_zero_or_pos n with h | h
  · rw [if_pos h, altr]
    simp only []
    rw [Nat.zero_add, ble_true (Nat.le_refl n), ble_true (Nat.le_refl (a + 4)), fitB_true (by omega), Bool.and_self, Bool.and_self, Bool.and_self, cond_t, f93.spec, bind_s, padT_self _ hl4, subI_self p hp, padT_self p hp, Sh.frame, hp, List.append_assoc]
  · rw [if_neg (by omega), altl]
    simp only []
    have e : padT (l ++ be 4 n ++ padT [] n) (a + 4) = l ++ be 4 n := by
      rw [padT_take _ _ (by rw [List.length_append, hl4]; omega), List.take_append_of_le_length (by omega), List.take_of_length_le (by omega)]
    rw [Nat.zero_add, ble_true (Nat.le_refl n), ble_true (show a + 4 ≤ a + 4 + n by omega), fitB_true (by omega), Bool.and_self, Bool.and_self, cond_t, f93.spec, bind_s, e, subI_self p hp, padT_self p hp, Sh.frame, hp, List.append_assoc]
def Sh.padded (m : List Int) : List Int := m ++ [128] ++ List.replicate ((119 - m.length % 64) % 64) 0 ++ be 8 (8 * m.length)
def Sh.digest (s : List Int) : List Int := (List.range 8).flatMap fun i => be 4 (IntKind.wrap .u64 (s.getD i 0)).toNat
def Sh.sum (m : List Int) : List Int := Sh.digest (Sh.chain (Sh.padded m) ((Sh.padded m).length / 64))
theorem digest_length (s : List Int) : (Sh.digest s).length = 32 := by
  simp [Sh.digest, List.range, List.range.loop, be_length]
theorem wrap_pos (z : Int) : IntKind.wrap .u64 z = ((IntKind.wrap .u64 z).toNat : Int) ∧ (IntKind.wrap .u64 z).toNat < 18446744073709551616 := by
  simp only [IntKind.wrap, IntKind.signed, IntKind.bits]
  simp
  omega
theorem sub_zero (l : List Int) (n : Nat) (h : l = []) : subI l 0 n = List.replicate n 0 := by
  subst h
  refine List.ext_getElem? fun i => ?_
  by_cases hi : i < n
  · simp [subI, hi]
  · rw [List.getElem?_eq_none (by simpa [subI] using hi), List.getElem?_eq_none (by simpa using hi)]
theorem f51.spec (K : Nat) (m b s : List Int) (h : Int) (R : Sh.Rep m b h s) (hK : 200 < K) :
    f51.F K (b, h, ((m.length % 18446744073709551616 : Nat) : Int), s) = some (Sh.sum m, b, h, ((m.length % 18446744073709551616 : Nat) : Int)) := by
  have hr : m.length % 64 < 64 := Nat.mod_lt _ (by decide)
  have e2 : Int.tmod (IntKind.wrap .i64 (119 - ((m.length % 64 : Nat) : Int))) 64 = (((119 - m.length % 64) % 64 : Nat) : Int) := by
    rw [wrap_i _ (by omega) (by omega), show (119 : Int) - ((m.length % 64 : Nat) : Int) = ((119 - m.length % 64 : Nat) : Int) by omega]
    exact tmod_nat _ 64
  have e8 : IntKind.wrap .u64 (8 * ((m.length % 18446744073709551616 : Nat) : Int)) = ((8 * m.length % 18446744073709551616 : Nat) : Int) := by
    rw [show (8 : Int) * ((m.length % 18446744073709551616 : Nat) : Int) = ((8 * (m.length % 18446744073709551616) : Nat) : Int) by omega, wrap_nat]
    congr 1
    omega
  simp only [f51.F, f51.T]
  rw [R.held, e2]
  generalize hp : (119 - m.length % 64) % 64 = p
  have hp64 : p < 64 := by omega
  have el : lenOK (p : Int) (p : Int) 1 = true := by
    simp only [lenOK, Int.toNat_natCast]
    rw [decide_eq_true (show (0 : Int) ≤ (p : Int) ∧ (p : Int) ≤ (p : Int) by omega), fitB_true (by omega), fitB_true (by omega)]; rfl
  have e1 := f59.spec K 0 8 (8 * m.length % 18446744073709551616) [] rfl (Nat.mod_lt _ (by decide)) (by omega) (by omega)
  rw [List.nil_append, show (18446744073709551616 : Nat) = 256 ^ 8 from rfl, be_mod, ← show (18446744073709551616 : Nat) = 256 ^ 8 from rfl, Nat.zero_add] at e1
  rw [el, cond_t, e8]
  simp only [Int.toNat_natCast]
  rw [show ((8 : Int)) = ((8 : Nat) : Int) from rfl, e1, bind_s]
  simp only []
  rw [Nat.zero_add, ble_true (Nat.le_refl p), ble_true (Nat.le_refl 8), Bool.and_self, Bool.and_self, Bool.and_self, cond_t, sub_zero [] p rfl, subI_self (be 8 (8 * m.length)) (be_length _ _)]
  obtain ⟨b', h', s', e3, R'⟩ := f57v1.spec K m 1 [128] p (List.replicate p 0) 8 (be 8 (8 * m.length)) rfl (by intro x hx; simp only [List.mem_singleton] at hx; omega) (by omega) (by simp) (octets_zeros _) (by omega) (be_length _ _) (be_octets _ _) (by omega) b s _ R (by omega)
  rw [R.held] at e3
  have hz : (m ++ [128] ++ List.replicate p 0 ++ be 8 (8 * m.length)) = Sh.padded m := by rw [Sh.padded, hp]
  rw [hz] at e3 R'
  rw [e3, bind_s]
  simp only []
  have hsum : Sh.digest s' = Sh.sum m := by rw [Sh.sum, ← R'.st]
  obtain ⟨x0, g0, t0⟩ : ∃ x : Nat, IntKind.wrap .u64 (List.getD s' 0 0) = (x : Int) ∧ x < 18446744073709551616 := ⟨_, wrap_pos _⟩
  obtain ⟨x1, g1, t1⟩ : ∃ x : Nat, IntKind.wrap .u64 (List.getD s' 1 0) = (x : Int) ∧ x < 18446744073709551616 := ⟨_, wrap_pos _⟩
  obtain ⟨x2, g2, t2⟩ : ∃ x : Nat, IntKind.wrap .u64 (List.getD s' 2 0) = (x : Int) ∧ x < 18446744073709551616 := ⟨_, wrap_pos _⟩
  obtain ⟨x3, g3, t3⟩ : ∃ x : Nat, IntKind.wrap .u64 (List.getD s' 3 0) = (x : Int) ∧ x < 18446744073709551616 := ⟨_, wrap_pos _⟩
  obtain ⟨x4, g4, t4⟩ : ∃ x : Nat, IntKind.wrap .u64 (List.getD s' 4 0) = (x : Int) ∧ x < 18446744073709551616 := ⟨_, wrap_pos _⟩
  obtain ⟨x5, g5, t5⟩ : ∃ x : Nat, IntKind.wrap .u64 (List.getD s' 5 0) = (x : Int) ∧ x < 18446744073709551616 := ⟨_, wrap_pos _⟩
  obtain ⟨x6, g6, t6⟩ : ∃ x : Nat, IntKind.wrap .u64 (List.getD s' 6 0) = (x : Int) ∧ x < 18446744073709551616 := ⟨_, wrap_pos _⟩
  obtain ⟨x7, g7, t7⟩ : ∃ x : Nat, IntKind.wrap .u64 (List.getD s' 7 0) = (x : Int) ∧ x < 18446744073709551616 := ⟨_, wrap_pos _⟩
  have hd : Sh.digest s' = []  ++ be 4 x0 ++ be 4 x1 ++ be 4 x2 ++ be 4 x3 ++ be 4 x4 ++ be 4 x5 ++ be 4 x6 ++ be 4 x7 := by
    simp only [Sh.digest, List.range, List.range.loop, List.flatMap_cons, List.flatMap_nil, List.append_nil, List.nil_append, g0, g1, g2, g3, g4, g5, g6, g7, Int.toNat_natCast, List.append_assoc]
  rw [hsum] at hd
  have p0 : f59.F K (0, (x0 : Int), ((4 : Nat) : Int), 0, []) = some (4, 4, 0, [], 4, [] ++ be 4 x0) := f59.spec K 0 4 x0 ([]) (by simp [be_length]) t0 (by omega) (by omega)
  rw [g0, show ((4 : Int)) = ((4 : Nat) : Int) from rfl, p0, bind_s]
  simp only []
  rw [Nat.zero_add, ble_true (Nat.le_refl 4), Bool.and_self, Bool.and_self, cond_t]
  have p1 : f59.F K (4, (x1 : Int), ((4 : Nat) : Int), 4, [] ++ be 4 x0) = some (8, 8, 4, [] ++ be 4 x0, 8, [] ++ be 4 x0 ++ be 4 x1) := f59.spec K 4 4 x1 ([] ++ be 4 x0) (by simp [be_length]) t1 (by omega) (by omega)
  rw [g1, subI_self ([] ++ be 4 x0) (show _ = 4 by simp [be_length]), p1, bind_s]
  simp only []
  rw [Nat.zero_add, ble_true (Nat.le_refl 8), Bool.and_self, Bool.and_self, cond_t]
  have p2 : f59.F K (8, (x2 : Int), ((4 : Nat) : Int), 8, [] ++ be 4 x0 ++ be 4 x1) = some (12, 12, 8, [] ++ be 4 x0 ++ be 4 x1, 12, [] ++ be 4 x0 ++ be 4 x1 ++ be 4 x2) := f59.spec K 8 4 x2 ([] ++ be 4 x0 ++ be 4 x1) (by simp [be_length]) t2 (by omega) (by omega)
  rw [g2, subI_self ([] ++ be 4 x0 ++ be 4 x1) (show _ = 8 by simp [be_length]), p2, bind_s]
  simp only []
  rw [Nat.zero_add, ble_true (Nat.le_refl 12), Bool.and_self, Bool.and_self, cond_t]
  have p3 : f59.F K (12, (x3 : Int), ((4 : Nat) : Int), 12, [] ++ be 4 x0 ++ be 4 x1 ++ be 4 x2) = some (16, 16, 12, [] ++ be 4 x0 ++ be 4 x1 ++ be 4 x2, 16, [] ++ be 4 x0 ++ be 4 x1 ++ be 4 x2 ++ be 4 x3) := f59.spec K 12 4 x3 ([] ++ be 4 x0 ++ be 4 x1 ++ be 4 x2) (by simp [be_length]) t3 (by omega) (by omega)
  rw [g3, subI_self ([] ++ be 4 x0 ++ be 4 x1 ++ be 4 x2) (show _ = 12 by simp [be_length]), p3, bind_s]
  simp only []
  rw [Nat.zero_add, ble_true (Nat.le_refl 16), Bool.and_self, Bool.and_self, cond_t]
  have p4 : f59.F K (16, (x4 : Int), ((4 : Nat) : Int), 16, [] ++ be 4 x0 ++ be 4 x1 ++ be 4 x2 ++ be 4 x3) = some (20, 20, 16, [] ++ be 4 x0 ++ be 4 x1 ++ be 4 x2 ++ be 4 x3, 20, [] ++ be 4 x0 ++ be 4 x1 ++ be 4 x2 ++ be 4 x3 ++ be 4 x4) := f59.spec K 16 4 x4 ([] ++ be 4 x0 ++ be 4 x1 ++ be 4 x2 ++ be 4 x3) (by simp [be_length]) t4 (by omega) (by omega)
  rw [g4, subI_self ([] ++ be 4 x0 ++ be 4 x1 ++ be 4 x2 ++ be 4 x3) (show _ = 16 by simp [be_length]), p4, bind_s]
  simp only []
  rw [Nat.zero_add, ble_true (Nat.le_refl 20), Bool.and_self, Bool.and_self, cond_t]
  have p5 : f59.F K (20, (x5 : Int), ((4 : Nat) : Int), 20, [] ++ be 4 x0 ++ be 4 x1 ++ be 4 x2 ++ be 4 x3 ++ be 4 x4) = some (24, 24, 20, [] ++ be 4 x0 ++ be 4 x1 ++ be 4 x2 ++ be 4 x3 ++ be 4 x4, 24, [] ++ be 4 x0 ++ be 4 x1 ++ be 4 x2 ++ be 4 x3 ++ be 4 x4 ++ be 4 x5) := f59.spec K 20 4 x5 ([] ++ be 4 x0 ++ be 4 x1 ++ be 4 x2 ++ be 4 x3 ++ be 4 x4) (by simp [be_length]) t5 (by omega) (by omega)
  rw [g5, subI_self ([] ++ be 4 x0 ++ be 4 x1 ++ be 4 x2 ++ be 4 x3 ++ be 4 x4) (show _ = 20 by simp [be_length]), p5, bind_s]
  simp only []
  rw [Nat.zero_add, ble_true (Nat.le_refl 24), Bool.and_self, Bool.and_self, cond_t]
  have p6 : f59.F K (24, (x6 : Int), ((4 : Nat) : Int), 24, [] ++ be 4 x0 ++ be 4 x1 ++ be 4 x2 ++ be 4 x3 ++ be 4 x4 ++ be 4 x5) = some (28, 28, 24, [] ++ be 4 x0 ++ be 4 x1 ++ be 4 x2 ++ be 4 x3 ++ be 4 x4 ++ be 4 x5, 28, [] ++ be 4 x0 ++ be 4 x1 ++ be 4 x2 ++ be 4 x3 ++ be 4 x4 ++ be 4 x5 ++ be 4 x6) := f59.spec K 24 4 x6 ([] ++ be 4 x0 ++ be 4 x1 ++ be 4 x2 ++ be 4 x3 ++ be 4 x4 ++ be 4 x5) (by simp [be_length]) t6 (by omega) (by omega)
  rw [g6, subI_self ([] ++ be 4 x0 ++ be 4 x1 ++ be 4 x2 ++ be 4 x3 ++ be 4 x4 ++ be 4 x5) (show _ = 24 by simp [be_length]), p6, bind_s]
  simp only []
  rw [Nat.zero_add, ble_true (Nat.le_refl 28), Bool.and_self, Bool.and_self, cond_t]
  have p7 : f59.F K (28, (x7 : Int), ((4 : Nat) : Int), 28, [] ++ be 4 x0 ++ be 4 x1 ++ be 4 x2 ++ be 4 x3 ++ be 4 x4 ++ be 4 x5 ++ be 4 x6) = some (32, 32, 28, [] ++ be 4 x0 ++ be 4 x1 ++ be 4 x2 ++ be 4 x3 ++ be 4 x4 ++ be 4 x5 ++ be 4 x6, 32, [] ++ be 4 x0 ++ be 4 x1 ++ be 4 x2 ++ be 4 x3 ++ be 4 x4 ++ be 4 x5 ++ be 4 x6 ++ be 4 x7) := f59.spec K 28 4 x7 ([] ++ be 4 x0 ++ be 4 x1 ++ be 4 x2 ++ be 4 x3 ++ be 4 x4 ++ be 4 x5 ++ be 4 x6) (by simp [be_length]) t7 (by omega) (by omega)
  rw [g7, subI_self ([] ++ be 4 x0 ++ be 4 x1 ++ be 4 x2 ++ be 4 x3 ++ be 4 x4 ++ be 4 x5 ++ be 4 x6) (show _ = 28 by simp [be_length]), p7, bind_s]
  simp only []
  rw [Nat.zero_add, ble_true (Nat.le_refl 32)]
  rw [Bool.and_self, show Nat.beq 32 32 = true from rfl, Bool.and_self, cond_t, subI_self ([] ++ be 4 x0 ++ be 4 x1 ++ be 4 x2 ++ be 4 x3 ++ be 4 x4 ++ be 4 x5 ++ be 4 x6 ++ be 4 x7) (show _ = 32 by simp [be_length]), ← hd, spl, show Nat.min 32 32 = 32 from rfl, padT_self (Sh.sum m) (digest_length _)]
  rfl
end Go.Proofs

namespace Go.Proofs
open Go.VM
end Go.Proofs

namespace Go.Proofs
open Go.VM
end Go.Proofs

namespace Go.Proofs
open Go.VM
abbrev f82.Ty0 := List Int × List Int × List Int
def f82.T (K : Nat) (a0 : List Int) (a1 : List Int) (a2 : List Int) : Option (List Int) :=
  (f70.F K (a0, a1)).bind fun y1 =>
  bif (decide (y1.2 > 0)) then
    (f67.F K (y1.1, a2)).bind fun y3 =>
    some y3.1
  else
    (f35.F K (y1.1, a2)).bind fun y4 =>
    bif (decide (y4 ≥ 0)) then
      (f67.F K (y1.1, a2)).bind fun y6 =>
      some y6.1
    else
      some y1.1
def f82.F (K : Nat) (x : f82.Ty0) : Option (List Int) := f82.T K x.1 x.2.1 x.2.2
def f82.av (x : f82.Ty0) : List VV := [.agg [.ints .u64 4 x.1], .agg [.ints .u64 4 x.2.1], .agg [.ints .u64 4 x.2.2]]
def f82.bl (_x : f82.Ty0) : List (Nat × Blk) := []
def f82.inA : VS → Option (f82.Ty0)
  | ⟨[(0, .agg [.ints .u64 4 a0]), (1, .agg [.ints .u64 4 a1]), (2, .agg [.ints .u64 4 a2])], [], 0⟩ => some (a0, a1, a2)
  | _ => none
def f82.o0 (y : List Int) : VS := ⟨[(0, .agg [.ints .u64 4 y])], [], 0⟩
def f82.inR : VS → Option (List Int)
  | ⟨[(0, .agg [.ints .u64 4 y])], [], 0⟩ => some y
  | _ => none
noncomputable def f82.E (K : Nat) : Entry := genE 0 f82.inA (f82.F K) (dv1 f82.o0)
theorem f82.ok (K : Nat) : EntryOK Try.prog 82 (f82.E K) := gen_ok mix tys_ok (tab_ok ((tab_cons (f70.ok K) (tab_cons (f67.ok K) (tab_cons (f35.ok K) tab_nil))))) Try.func82 (c := bodyOf Try.f82) (by kernel_rfl) (by kernel_rfl) (loops_none (lp := lpNone) (by kernel_rfl)) (av := f82.av) (bl := f82.bl) (inR := f82.inR) (out := f82.o0) (fuel := 400)
  (by intro s x h; unfold f82.inA at h; split at h <;> simp at h; subst h; rfl) (fun _ => Nat.le_of_ble_eq_true rfl)
  (by intro s y h; unfold f82.inR at h; split at h <;> simp at h <;> subst h <;> rfl) (fun _ _ _ => rfl) (fun _ => by kernel_rfl)
end Go.Proofs

namespace Go.Proofs
open Go.VM
def f65.T (_K : Nat)  : Option (List Int) :=
  some ([0, 0, 0, 0])
def f65.F (K : Nat) (_x : Unit) : Option (List Int) := f65.T K
def f65.av (_x : Unit) : List VV := []
def f65.bl (_x : Unit) : List (Nat × Blk) := []
def f65.inA : VS → Option (Unit)
  | ⟨[], [], 0⟩ => some ()
  | _ => none
def f65.o0 (y : List Int) : VS := ⟨[(0, .agg [.ints .u64 4 y])], [], 0⟩
def f65.inR : VS → Option (List Int)
  | ⟨[(0, .agg [.ints .u64 4 y])], [], 0⟩ => some y
  | _ => none
noncomputable def f65.E (K : Nat) : Entry := genE 0 f65.inA (f65.F K) (dv1 f65.o0)
theorem f65.ok (K : Nat) : EntryOK Try.prog 65 (f65.E K) := gen_ok mix tys_ok (tab_ok ( tab_nil)) Try.func65 (c := bodyOf Try.f65) (by kernel_rfl) (by kernel_rfl) (loops_none (lp := lpNone) (by kernel_rfl)) (av := f65.av) (bl := f65.bl) (inR := f65.inR) (out := f65.o0) (fuel := 400)
  (by intro s x h; unfold f65.inA at h; split at h <;> simp at h; rfl) (fun _ => Nat.le_of_ble_eq_true rfl)
  (by intro s y h; unfold f65.inR at h; split at h <;> simp at h <;> subst h <;> rfl) (fun _ _ _ => rfl) (fun _ => by kernel_rfl)
end Go.Proofs

namespace Go.Proofs
open Go.VM
abbrev f36.Ty0 := Int × List Int × List Int × List Int
abbrev f36.Ty1 := List Int × List Int × Int
abbrev f36.Ty2 := List Int × List Int
noncomputable def f36.c : Code := bodyOf Try.f36
def f36.s0t (K : Nat) (rec : f36.Ty0 → Option (f36.Ty2)) (t7 : Int) (b0 : List Int) (b1 : List Int) (b2 : List Int) : Option (f36.Ty2) :=
  bif (decide (t7 ≥ 0)) then
    (f35.F K (b1, b2)).bind fun y19 =>
    bif (decide (y19 ≥ 0)) then
      (f67.F K (b1, b2)).bind fun y21 =>
      let v22 := IntKind.wrap .i64 (Int.tdiv t7 64)
      bif decide (0 ≤ v22 ∧ v22 < 4) then
        let v25 := Int.tmod t7 64
        bif decide (0 ≤ v25) then
          bif decide (0 ≤ v22 ∧ v22 < 4) then
            (f32.F K (b2, (-1))).bind fun y31 =>
            rec ((IntKind.wrap .i64 (t7 - 1)), (setD b0 (Int.toNat v22) (bits .or .u64 (List.getD b0 (Int.toNat v22) 0) (shiftI .shl .u64 1 v25))), y21.1, y31)
          else
            none
        else
          none
      else
        none
    else
      (f32.F K (b2, (-1))).bind fun y33 =>
      rec ((IntKind.wrap .i64 (t7 - 1)), b0, b1, y33)
  else
    some (b0, b1)
def f36.s0 (K : Nat) (rec : f36.Ty0 → Option (f36.Ty2)) (x : f36.Ty0) : Option (f36.Ty2) := f36.s0t K rec x.1 x.2.1 x.2.2.1 x.2.2.2
noncomputable def f36.s0.b : Code := (findLoop 0 f36.c).getD .skip
def f36.s0.h : Hint := { lv := [4, 5, 7, 8] }
def f36.s0.ho : Hint := { lv := [4, 5] }
def f36.s0.shp (x : f36.Ty0) : VS := ⟨[(4, .ptr 0 0), (5, .ptr 1 0), (7, .int .i64 x.1), (8, .ptr 2 0)], [(0, ([.ints .u64 4 x.2.1], 39, .norm)), (1, ([.ints .u64 4 x.2.2.1], 39, .norm)), (2, ([.ints .u64 4 x.2.2.2], 39, .norm))], 3⟩
def f36.s0.inX : VS → Option (f36.Ty0)
  | ⟨[(4, .ptr 0 0), (5, .ptr 1 0), (7, .int .i64 t7), (8, .ptr 2 0)], [(0, ([.ints .u64 4 b0], 39, .norm)), (1, ([.ints .u64 4 b1], 39, .norm)), (2, ([.ints .u64 4 b2], 39, .norm))], 3⟩ => some (t7, b0, b1, b2)
  | _ => none
def f36.s0.o0 (y : f36.Ty2) : VS := ⟨[(4, .ptr 0 0), (5, .ptr 1 0)], [(0, ([.ints .u64 4 y.1], 39, .norm)), (1, ([.ints .u64 4 y.2], 39, .norm))], 2⟩
def f36.s0.des : ∀ α : Type, (f36.Ty2) → (Ex → VS → Option α) → Option α := (des1 (.exit 0) f36.s0.o0)
def f36.s0.out : f36.Ty2 → Ex × VS := (fun y => (.exit 0, f36.s0.o0 y))
theorem f36.s0.desOK : ∀ α y (k : Ex → VS → Option α), f36.s0.des α y k = k (f36.s0.out y).1 (f36.s0.out y).2 := (fun _ _ _ => rfl)
def f36.s0.inY : Ex → VS → Option (f36.Ty2)
  | .exit 0, ⟨[(4, .ptr 0 0), (5, .ptr 1 0)], [(0, ([.ints .u64 4 b0], 39, .norm)), (1, ([.ints .u64 4 b1], 39, .norm))], 2⟩ => some (b0, b1)
  | _, _ => none
def f36.lp (K : Nat) : Nat → Option (Hint × Summ) := tabLp [(0, f36.s0.h, summOf (iter (f36.s0 K) K) f36.s0.inX f36.s0.des)]
noncomputable def f36.tab (K : Nat) : List (Nat × Entry) := [(65, (f65.E K)), (66, (f66.E K)), (33, (f33.E K)), (32, (f32.E K)), (35, (f35.E K)), (67, (f67.E K))]
theorem f36.tabOK (K : Nat) : SpecOK Try.prog (tabSp (f36.tab K)) := tab_ok ((tab_cons (f65.ok K) (tab_cons (f66.ok K) (tab_cons (f33.ok K) (tab_cons (f32.ok K) (tab_cons (f35.ok K) (tab_cons (f67.ok K) tab_nil)))))))
theorem f36.s0.eq (K : Nat) (rec : f36.Ty0 → Option (f36.Ty2)) (x : f36.Ty0) : f36.s0 K rec x = roundL (getA tys) (tabSp (f36.tab K)) 70 0 (f36.lp K) 400 f36.s0.b f36.s0.h f36.s0.ho f36.s0.shp f36.s0.inX f36.s0.inY rec x := by kernel_rfl
theorem f36.s0.lok (K : Nat) : LoopsOK Try.prog 70 0 (f36.lp K) f36.s0.b := loops_ok (by
  have h : loopsIn (f36.lp K) f36.s0.b = [] := by kernel_rfl
  rw [h]; simp)
theorem f36.s0.ok (K : Nat) : SummOK Try.prog 70 0 (summOf (iter (f36.s0 K) K) f36.s0.inX f36.s0.des) f36.s0.b :=
  loop_ok mix tys_ok (f36.tabOK K) (h := f36.s0.h) (ho := f36.s0.ho) (shp := f36.s0.shp) (inX := f36.s0.inX) (des := f36.s0.des) (out := f36.s0.out) (inY := f36.s0.inY) (fuel := 400)
    (by intro st x h; unfold f36.s0.inX at h; split at h <;> simp at h; subst h; rfl)
    (by intro e st y h; unfold f36.s0.inY at h; split at h <;> simp at h <;> subst h <;> rfl)
    f36.s0.desOK (f36.s0.lok K) (f36.s0 K) (f36.s0.eq K) K
theorem f36.loops (K : Nat) : LoopsOK Try.prog 70 0 (f36.lp K) f36.c := loops_ok (by
  have h : loopsIn (f36.lp K) f36.c = [(0, f36.s0.b)] := by kernel_rfl
  rw [h]
  intro p hp
  simp only [List.mem_cons, List.not_mem_nil, or_false] at hp
  rcases hp with rfl
  · exact ⟨_, rfl, (f36.s0.ok K)⟩)
def f36.T (K : Nat) (a0 : List Int) (a1 : List Int) : Option (f36.Ty1) :=
  (f65.F K ()).bind fun y1 =>
  bif (eqL 4 a1 y1 && true) then
    some ([0, 0, 0, 0], [0, 0, 0, 0], 1)
  else
    (f66.F K a0).bind fun y3 =>
    (f66.F K a1).bind fun y4 =>
    let v5 := IntKind.wrap .i64 (y3 - y4)
    (f66.F K a0).bind fun y6 =>
    bif (decide (y6 ≤ 64)) then
      bif (decide (v5 ≥ 0)) then
        let v10 := List.getD a1 0 0
        bif decide (v10 ≠ 0) then
          (f33.F K (IntKind.wrap .u64 (Int.tdiv (List.getD a0 0 0) v10))).bind fun y12 =>
          let v14 := List.getD a1 0 0
          bif decide (v14 ≠ 0) then
            (f33.F K (Int.tmod (List.getD a0 0 0) v14)).bind fun y16 =>
            some (y12, y16, 0)
          else
            none
        else
          none
      else
        (f32.F K (a1, v5)).bind fun y17 =>
        (iter (f36.s0 K) K (v5, [0, 0, 0, 0], a0, y17)).bind fun y34 =>
        some (y34.1, y34.2, 0)
    else
      (f32.F K (a1, v5)).bind fun y35 =>
      (iter (f36.s0 K) K (v5, [0, 0, 0, 0], a0, y35)).bind fun y36 =>
      some (y36.1, y36.2, 0)
def f36.F (K : Nat) (x : f36.Ty2) : Option (f36.Ty1) := f36.T K x.1 x.2
def f36.av (x : f36.Ty2) : List VV := [.agg [.ints .u64 4 x.1], .agg [.ints .u64 4 x.2]]
def f36.bl (_x : f36.Ty2) : List (Nat × Blk) := []
def f36.inA : VS → Option (f36.Ty2)
  | ⟨[(0, .agg [.ints .u64 4 a0]), (1, .agg [.ints .u64 4 a1])], [], 0⟩ => some (a0, a1)
  | _ => none
def f36.o0 (y : f36.Ty1) : VS := ⟨[(0, .tup [.agg [.ints .u64 4 y.1], .agg [.ints .u64 4 y.2.1], .int .i64 y.2.2])], [], 0⟩
def f36.des : ∀ α : Type, (f36.Ty1) → (VS → Option α) → Option α := (dv1 f36.o0)
def f36.out : f36.Ty1 → VS := f36.o0
def f36.inR : VS → Option (f36.Ty1)
  | ⟨[(0, .tup [.agg [.ints .u64 4 y_0], .agg [.ints .u64 4 y_1], .int .i64 y_2])], [], 0⟩ => some (y_0, y_1, y_2)
  | _ => none
noncomputable def f36.E (K : Nat) : Entry := genE 0 f36.inA (f36.F K) f36.des
theorem f36.eq (K : Nat) (x : f36.Ty2) : f36.F K x = xrun (getA tys) (tabSp (f36.tab K)) Try.f36.ntmps 0 (f36.lp K) 400 f36.c ⟨initL 0 (f36.av x), f36.bl x, 0⟩ (contF (getA tys) 0 Try.f36.results.toList f36.inR) := by kernel_rfl
theorem f36.ok (K : Nat) : EntryOK Try.prog 36 (f36.E K) :=
  gen_ok mix tys_ok (f36.tabOK K) Try.func36 (by kernel_rfl : Try.f36.body = some f36.c) (by kernel_rfl) (f36.loops K) (av := f36.av) (bl := f36.bl) (out := f36.out) (fuel := 400)
    (by intro s x h; unfold f36.inA at h; split at h <;> simp at h; subst h; rfl) (fun _ => Nat.le_of_ble_eq_true rfl)
    (by intro s y h; unfold f36.inR at h; split at h <;> simp at h <;> subst h <;> rfl) (fun _ _ _ => rfl) (f36.eq K)
end Go.Proofs

namespace Go.Proofs
open Go.VM
end Go.Proofs

namespace Go.Proofs
open Go.VM
end Go.Proofs

namespace Go.Proofs
open Go.VM
def f104.k0 : ByteArray := ByteArray.mk #[0, 1, 2, 2, 3, 3, 3, 3, 4, 4, 4, 4, 4, 4, 4, 4, 5, 5, 5, 5, 5, 5, 5, 5, 5, 5, 5, 5, 5, 5, 5, 5, 6, 6, 6, 6, 6, 6, 6, 6, 6, 6, 6, 6, 6, 6, 6, 6, 6, 6, 6, 6, 6, 6, 6, 6, 6, 6, 6, 6, 6, 6, 6, 6, 7, 7, 7, 7, 7, 7, 7, 7, 7, 7, 7, 7, 7, 7, 7, 7, 7, 7, 7, 7, 7, 7, 7, 7, 7, 7, 7, 7, 7, 7, 7, 7, 7, 7, 7, 7, 7, 7, 7, 7, 7, 7, 7, 7, 7, 7, 7, 7, 7, 7, 7, 7, 7, 7, 7, 7, 7, 7, 7, 7, 7, 7, 7, 7, 8, 8, 8, 8, 8, 8, 8, 8, 8, 8, 8, 8, 8, 8, 8, 8, 8, 8, 8, 8, 8, 8, 8, 8, 8, 8, 8, 8, 8, 8, 8, 8, 8, 8, 8, 8, 8, 8, 8, 8, 8, 8, 8, 8, 8, 8, 8, 8, 8, 8, 8, 8, 8, 8, 8, 8, 8, 8, 8, 8, 8, 8, 8, 8, 8, 8, 8, 8, 8, 8, 8, 8, 8, 8, 8, 8, 8, 8, 8, 8, 8, 8, 8, 8, 8, 8, 8, 8, 8, 8, 8, 8, 8, 8, 8, 8, 8, 8, 8, 8, 8, 8, 8, 8, 8, 8, 8, 8, 8, 8, 8, 8, 8, 8, 8, 8, 8, 8, 8, 8, 8, 8, 8, 8, 8, 8, 8, 8]
def f104.T (_K : Nat) (a0 : Int) : Option (Int) :=
  bif (decide (a0 ≥ 4294967296)) then
    let v2 := Int.fdiv a0 (2 ^ 32)
    bif (decide (v2 ≥ 65536)) then
      let v4 := Int.fdiv v2 (2 ^ 16)
      bif (decide (v4 ≥ 256)) then
        let v7 := IntKind.wrap .u8 (Int.fdiv v4 (2 ^ 8))
        bif decide (0 ≤ v7 ∧ v7 < ((ByteArray.size f104.k0 : Nat) : Int)) then
          some (IntKind.wrap .i64 (56 + (IntKind.wrap .i64 (strAt f104.k0 (Int.toNat v7)))))
        else
          none
      else
        let v11 := IntKind.wrap .u8 v4
        bif decide (0 ≤ v11 ∧ v11 < ((ByteArray.size f104.k0 : Nat) : Int)) then
          some (IntKind.wrap .i64 (48 + (IntKind.wrap .i64 (strAt f104.k0 (Int.toNat v11)))))
        else
          none
    else
      bif (decide (v2 ≥ 256)) then
        let v17 := IntKind.wrap .u8 (Int.fdiv v2 (2 ^ 8))
        bif decide (0 ≤ v17 ∧ v17 < ((ByteArray.size f104.k0 : Nat) : Int)) then
          some (IntKind.wrap .i64 (40 + (IntKind.wrap .i64 (strAt f104.k0 (Int.toNat v17)))))
        else
          none
      else
        let v21 := IntKind.wrap .u8 v2
        bif decide (0 ≤ v21 ∧ v21 < ((ByteArray.size f104.k0 : Nat) : Int)) then
          some (IntKind.wrap .i64 (32 + (IntKind.wrap .i64 (strAt f104.k0 (Int.toNat v21)))))
        else
          none
  else
    bif (decide (a0 ≥ 65536)) then
      let v26 := Int.fdiv a0 (2 ^ 16)
      bif (decide (v26 ≥ 256)) then
        let v29 := IntKind.wrap .u8 (Int.fdiv v26 (2 ^ 8))
        bif decide (0 ≤ v29 ∧ v29 < ((ByteArray.size f104.k0 : Nat) : Int)) then
          some (IntKind.wrap .i64 (24 + (IntKind.wrap .i64 (strAt f104.k0 (Int.toNat v29)))))
        else
          none
      else
        let v33 := IntKind.wrap .u8 v26
        bif decide (0 ≤ v33 ∧ v33 < ((ByteArray.size f104.k0 : Nat) : Int)) then
          some (IntKind.wrap .i64 (16 + (IntKind.wrap .i64 (strAt f104.k0 (Int.toNat v33)))))
        else
          none
    else
      bif (decide (a0 ≥ 256)) then
        let v39 := IntKind.wrap .u8 (Int.fdiv a0 (2 ^ 8))
        bif decide (0 ≤ v39 ∧ v39 < ((ByteArray.size f104.k0 : Nat) : Int)) then
          some (IntKind.wrap .i64 (8 + (IntKind.wrap .i64 (strAt f104.k0 (Int.toNat v39)))))
        else
          none
      else
        let v43 := IntKind.wrap .u8 a0
        bif decide (0 ≤ v43 ∧ v43 < ((ByteArray.size f104.k0 : Nat) : Int)) then
          some (IntKind.wrap .i64 (0 + (IntKind.wrap .i64 (strAt f104.k0 (Int.toNat v43)))))
        else
          none
def f104.F (K : Nat) (x : Int) : Option (Int) := f104.T K x
def f104.av (x : Int) : List VV := [.int .u64 x]
def f104.bl (_x : Int) : List (Nat × Blk) := []
def f104.inA : VS → Option (Int)
  | ⟨[(0, .int .u64 a0)], [], 0⟩ => some a0
  | _ => none
def f104.o0 (y : Int) : VS := ⟨[(0, .int .i64 y)], [], 0⟩
def f104.inR : VS → Option (Int)
  | ⟨[(0, .int .i64 y)], [], 0⟩ => some y
  | _ => none
noncomputable def f104.E (K : Nat) : Entry := genE 0 f104.inA (f104.F K) (dv1 f104.o0)
theorem f104.ok (K : Nat) : EntryOK Try.prog 104 (f104.E K) := gen_ok mix tys_ok (tab_ok ( tab_nil)) Try.func104 (c := bodyOf Try.f104) (by kernel_rfl) (by kernel_rfl) (loops_none (lp := lpNone) (by kernel_rfl)) (av := f104.av) (bl := f104.bl) (inR := f104.inR) (out := f104.o0) (fuel := 400)
  (by intro s x h; unfold f104.inA at h; split at h <;> simp at h; subst h; rfl) (fun _ => Nat.le_of_ble_eq_true rfl)
  (by intro s y h; unfold f104.inR at h; split at h <;> simp at h <;> subst h <;> rfl) (fun _ _ _ => rfl) (fun _ => by kernel_rfl)
end Go.Proofs

namespace Go.Proofs
open Go.VM
def f98.T (K : Nat) (a0 : Int) : Option (Int) :=
  (f104.F K a0).bind fun y1 =>
  some (IntKind.wrap .i64 (64 - y1))
def f98.F (K : Nat) (x : Int) : Option (Int) := f98.T K x
def f98.av (x : Int) : List VV := [.int .u64 x]
def f98.bl (_x : Int) : List (Nat × Blk) := []
def f98.inA : VS → Option (Int)
  | ⟨[(0, .int .u64 a0)], [], 0⟩ => some a0
  | _ => none
def f98.o0 (y : Int) : VS := ⟨[(0, .int .i64 y)], [], 0⟩
def f98.inR : VS → Option (Int)
  | ⟨[(0, .int .i64 y)], [], 0⟩ => some y
  | _ => none
noncomputable def f98.E (K : Nat) : Entry := genE 0 f98.inA (f98.F K) (dv1 f98.o0)
theorem f98.ok (K : Nat) : EntryOK Try.prog 98 (f98.E K) := gen_ok mix tys_ok (tab_ok ((tab_cons (f104.ok K) tab_nil))) Try.func98 (c := bodyOf Try.f98) (by kernel_rfl) (by kernel_rfl) (loops_none (lp := lpNone) (by kernel_rfl)) (av := f98.av) (bl := f98.bl) (inR := f98.inR) (out := f98.o0) (fuel := 400)
  (by intro s x h; unfold f98.inA at h; split at h <;> simp at h; subst h; rfl) (fun _ => Nat.le_of_ble_eq_true rfl)
  (by intro s y h; unfold f98.inR at h; split at h <;> simp at h <;> subst h <;> rfl) (fun _ _ _ => rfl) (fun _ => by kernel_rfl)
end Go.Proofs

namespace Go.Proofs
open Go.VM
abbrev f81.Ty0 := Int × Int × Int × Int × Int × Int × Int × Int × Int
abbrev f81.Ty1 := Int × Int × Int × Int × Int × Int × Int × Int
abbrev f81.Ty2 := Int × Int × Int × Int × Int × Int
abbrev f81.Ty3 := Int × Int × Int
noncomputable def f81.c : Code := bodyOf Try.f81
def f81.s0t (_K : Nat) (rec : f81.Ty0 → Option (f81.Ty1)) (t2 : Int) (t8 : Int) (t9 : Int) (t10 : Int) (t11 : Int) (t13 : Int) (t14 : Int) (t15 : Int) (t16 : Int) : Option (f81.Ty1) :=
  bif (decide (t15 ≥ 4294967296)) then
    let v20 := IntKind.wrap .u64 (t15 - 1)
    let v21 := IntKind.wrap .u64 (t16 + t9)
    bif (decide (v21 ≥ 4294967296)) then
      some (t2, t8, t9, t10, t11, t13, t14, v20)
    else
      rec (t2, t8, t9, t10, t11, t13, t14, v20, v21)
  else
    bif (decide ((IntKind.wrap .u64 (t15 * t10)) > (IntKind.wrap .u64 ((IntKind.wrap .u64 (4294967296 * t16)) + t13)))) then
      let v27 := IntKind.wrap .u64 (t15 - 1)
      let v28 := IntKind.wrap .u64 (t16 + t9)
      bif (decide (v28 ≥ 4294967296)) then
        some (t2, t8, t9, t10, t11, t13, t14, v27)
      else
        rec (t2, t8, t9, t10, t11, t13, t14, v27, v28)
    else
      some (t2, t8, t9, t10, t11, t13, t14, t15)
def f81.s0 (K : Nat) (rec : f81.Ty0 → Option (f81.Ty1)) (x : f81.Ty0) : Option (f81.Ty1) := f81.s0t K rec x.1 x.2.1 x.2.2.1 x.2.2.2.1 x.2.2.2.2.1 x.2.2.2.2.2.1 x.2.2.2.2.2.2.1 x.2.2.2.2.2.2.2.1 x.2.2.2.2.2.2.2.2
noncomputable def f81.s0.b : Code := (findLoop 0 f81.c).getD .skip
def f81.s0.h : Hint := { lv := [2, 8, 9, 10, 11, 13, 14, 15, 16] }
def f81.s0.ho : Hint := { lv := [2, 8, 9, 10, 11, 13, 14, 15] }
def f81.s0.shp (x : f81.Ty0) : VS := ⟨[(2, .int .u64 x.1), (8, .int .u64 x.2.1), (9, .int .u64 x.2.2.1), (10, .int .u64 x.2.2.2.1), (11, .int .u64 x.2.2.2.2.1), (13, .int .u64 x.2.2.2.2.2.1), (14, .int .u64 x.2.2.2.2.2.2.1), (15, .int .u64 x.2.2.2.2.2.2.2.1), (16, .int .u64 x.2.2.2.2.2.2.2.2)], [], 0⟩
def f81.s0.inX : VS → Option (f81.Ty0)
  | ⟨[(2, .int .u64 t2), (8, .int .u64 t8), (9, .int .u64 t9), (10, .int .u64 t10), (11, .int .u64 t11), (13, .int .u64 t13), (14, .int .u64 t14), (15, .int .u64 t15), (16, .int .u64 t16)], [], 0⟩ => some (t2, t8, t9, t10, t11, t13, t14, t15, t16)
  | _ => none
def f81.s0.o0 (y : f81.Ty1) : VS := ⟨[(2, .int .u64 y.1), (8, .int .u64 y.2.1), (9, .int .u64 y.2.2.1), (10, .int .u64 y.2.2.2.1), (11, .int .u64 y.2.2.2.2.1), (13, .int .u64 y.2.2.2.2.2.1), (14, .int .u64 y.2.2.2.2.2.2.1), (15, .int .u64 y.2.2.2.2.2.2.2)], [], 0⟩
def f81.s0.des : ∀ α : Type, (f81.Ty1) → (Ex → VS → Option α) → Option α := (des1 (.exit 0) f81.s0.o0)
def f81.s0.out : f81.Ty1 → Ex × VS := (fun y => (.exit 0, f81.s0.o0 y))
theorem f81.s0.desOK : ∀ α y (k : Ex → VS → Option α), f81.s0.des α y k = k (f81.s0.out y).1 (f81.s0.out y).2 := (fun _ _ _ => rfl)
def f81.s0.inY : Ex → VS → Option (f81.Ty1)
  | .exit 0, ⟨[(2, .int .u64 t2), (8, .int .u64 t8), (9, .int .u64 t9), (10, .int .u64 t10), (11, .int .u64 t11), (13, .int .u64 t13), (14, .int .u64 t14), (15, .int .u64 t15)], [], 0⟩ => some (t2, t8, t9, t10, t11, t13, t14, t15)
  | _, _ => none
def f81.s2t (_K : Nat) (rec : f81.Ty0 → Option (f81.Ty2)) (t2 : Int) (t8 : Int) (t9 : Int) (t10 : Int) (t14 : Int) (t15 : Int) (t16 : Int) (t17 : Int) (t18 : Int) : Option (f81.Ty2) :=
  bif (decide (t18 ≥ 4294967296)) then
    let v42 := IntKind.wrap .u64 (t18 - 1)
    let v43 := IntKind.wrap .u64 (t16 + t9)
    bif (decide (v43 ≥ 4294967296)) then
      some (t2, t8, t14, t15, t17, v42)
    else
      rec (t2, t8, t9, t10, t14, t15, v43, t17, v42)
  else
    bif (decide ((IntKind.wrap .u64 (t18 * t10)) > (IntKind.wrap .u64 ((IntKind.wrap .u64 (4294967296 * t16)) + t14)))) then
      let v49 := IntKind.wrap .u64 (t18 - 1)
      let v50 := IntKind.wrap .u64 (t16 + t9)
      bif (decide (v50 ≥ 4294967296)) then
        some (t2, t8, t14, t15, t17, v49)
      else
        rec (t2, t8, t9, t10, t14, t15, v50, t17, v49)
    else
      some (t2, t8, t14, t15, t17, t18)
def f81.s2 (K : Nat) (rec : f81.Ty0 → Option (f81.Ty2)) (x : f81.Ty0) : Option (f81.Ty2) := f81.s2t K rec x.1 x.2.1 x.2.2.1 x.2.2.2.1 x.2.2.2.2.1 x.2.2.2.2.2.1 x.2.2.2.2.2.2.1 x.2.2.2.2.2.2.2.1 x.2.2.2.2.2.2.2.2
noncomputable def f81.s2.b : Code := (findLoop 2 f81.c).getD .skip
def f81.s2.h : Hint := { lv := [2, 8, 9, 10, 14, 15, 16, 17, 18] }
def f81.s2.ho : Hint := { lv := [2, 8, 14, 15, 17, 18] }
def f81.s2.shp (x : f81.Ty0) : VS := ⟨[(2, .int .u64 x.1), (8, .int .u64 x.2.1), (9, .int .u64 x.2.2.1), (10, .int .u64 x.2.2.2.1), (14, .int .u64 x.2.2.2.2.1), (15, .int .u64 x.2.2.2.2.2.1), (16, .int .u64 x.2.2.2.2.2.2.1), (17, .int .u64 x.2.2.2.2.2.2.2.1), (18, .int .u64 x.2.2.2.2.2.2.2.2)], [], 0⟩
def f81.s2.inX : VS → Option (f81.Ty0)
  | ⟨[(2, .int .u64 t2), (8, .int .u64 t8), (9, .int .u64 t9), (10, .int .u64 t10), (14, .int .u64 t14), (15, .int .u64 t15), (16, .int .u64 t16), (17, .int .u64 t17), (18, .int .u64 t18)], [], 0⟩ => some (t2, t8, t9, t10, t14, t15, t16, t17, t18)
  | _ => none
def f81.s2.o0 (y : f81.Ty2) : VS := ⟨[(2, .int .u64 y.1), (8, .int .u64 y.2.1), (14, .int .u64 y.2.2.1), (15, .int .u64 y.2.2.2.1), (17, .int .u64 y.2.2.2.2.1), (18, .int .u64 y.2.2.2.2.2)], [], 0⟩
def f81.s2.des : ∀ α : Type, (f81.Ty2) → (Ex → VS → Option α) → Option α := (des1 (.exit 2) f81.s2.o0)
def f81.s2.out : f81.Ty2 → Ex × VS := (fun y => (.exit 2, f81.s2.o0 y))
theorem f81.s2.desOK : ∀ α y (k : Ex → VS → Option α), f81.s2.des α y k = k (f81.s2.out y).1 (f81.s2.out y).2 := (fun _ _ _ => rfl)
def f81.s2.inY : Ex → VS → Option (f81.Ty2)
  | .exit 2, ⟨[(2, .int .u64 t2), (8, .int .u64 t8), (14, .int .u64 t14), (15, .int .u64 t15), (17, .int .u64 t17), (18, .int .u64 t18)], [], 0⟩ => some (t2, t8, t14, t15, t17, t18)
  | _, _ => none
def f81.lp (K : Nat) : Nat → Option (Hint × Summ) := tabLp [(0, f81.s0.h, summOf (iter (f81.s0 K) K) f81.s0.inX f81.s0.des), (2, f81.s2.h, summOf (iter (f81.s2 K) K) f81.s2.inX f81.s2.des)]
noncomputable def f81.tab (K : Nat) : List (Nat × Entry) := [(98, (f98.E K))]
theorem f81.tabOK (K : Nat) : SpecOK Try.prog (tabSp (f81.tab K)) := tab_ok ((tab_cons (f98.ok K) tab_nil))
theorem f81.s0.eq (K : Nat) (rec : f81.Ty0 → Option (f81.Ty1)) (x : f81.Ty0) : f81.s0 K rec x = roundL (getA tys) (tabSp (f81.tab K)) 135 0 (f81.lp K) 400 f81.s0.b f81.s0.h f81.s0.ho f81.s0.shp f81.s0.inX f81.s0.inY rec x := by kernel_rfl
theorem f81.s0.lok (K : Nat) : LoopsOK Try.prog 135 0 (f81.lp K) f81.s0.b := loops_ok (by
  have h : loopsIn (f81.lp K) f81.s0.b = [] := by kernel_rfl
  rw [h]; simp)
theorem f81.s0.ok (K : Nat) : SummOK Try.prog 135 0 (summOf (iter (f81.s0 K) K) f81.s0.inX f81.s0.des) f81.s0.b :=
  loop_ok mix tys_ok (f81.tabOK K) (h := f81.s0.h) (ho := f81.s0.ho) (shp := f81.s0.shp) (inX := f81.s0.inX) (des := f81.s0.des) (out := f81.s0.out) (inY := f81.s0.inY) (fuel := 400)
    (by intro st x h; unfold f81.s0.inX at h; split at h <;> simp at h; subst h; rfl)
    (by intro e st y h; unfold f81.s0.inY at h; split at h <;> simp at h <;> subst h <;> rfl)
    f81.s0.desOK (f81.s0.lok K) (f81.s0 K) (f81.s0.eq K) K
theorem f81.s2.eq (K : Nat) (rec : f81.Ty0 → Option (f81.Ty2)) (x : f81.Ty0) : f81.s2 K rec x = roundL (getA tys) (tabSp (f81.tab K)) 135 0 (f81.lp K) 400 f81.s2.b f81.s2.h f81.s2.ho f81.s2.shp f81.s2.inX f81.s2.inY rec x := by kernel_rfl
theorem f81.s2.lok (K : Nat) : LoopsOK Try.prog 135 0 (f81.lp K) f81.s2.b := loops_ok (by
  have h : loopsIn (f81.lp K) f81.s2.b = [] := by kernel_rfl
  rw [h]; simp)
theorem f81.s2.ok (K : Nat) : SummOK Try.prog 135 0 (summOf (iter (f81.s2 K) K) f81.s2.inX f81.s2.des) f81.s2.b :=
  loop_ok mix tys_ok (f81.tabOK K) (h := f81.s2.h) (ho := f81.s2.ho) (shp := f81.s2.shp) (inX := f81.s2.inX) (des := f81.s2.des) (out := f81.s2.out) (inY := f81.s2.inY) (fuel := 400)
    (by intro st x h; unfold f81.s2.inX at h; split at h <;> simp at h; subst h; rfl)
    (by intro e st y h; unfold f81.s2.inY at h; split at h <;> simp at h <;> subst h <;> rfl)
    f81.s2.desOK (f81.s2.lok K) (f81.s2 K) (f81.s2.eq K) K
theorem f81.loops (K : Nat) : LoopsOK Try.prog 135 0 (f81.lp K) f81.c := loops_ok (by
  have h : loopsIn (f81.lp K) f81.c = [(0, f81.s0.b), (2, f81.s2.b)] := by kernel_rfl
  rw [h]
  intro p hp
  simp only [List.mem_cons, List.not_mem_nil, or_false] at hp
  rcases hp with rfl | rfl
  · exact ⟨_, rfl, (f81.s0.ok K)⟩
  · exact ⟨_, rfl, (f81.s2.ok K)⟩)
def f81.T (K : Nat) (a0 : Int) (a1 : Int) (a2 : Int) : Option (Int × Int) :=
  bif (a2 == 0) then
    none
  else
    bif (decide (a2 ≤ a0)) then
      none
    else
      bif (a0 == 0) then
        bif decide (a2 ≠ 0) then
          bif decide (a2 ≠ 0) then
            some ((IntKind.wrap .u64 (Int.tdiv a1 a2)), (Int.tmod a1 a2))
          else
            none
        else
          none
      else
        (f98.F K a2).bind fun y4 =>
        let v5 := IntKind.wrap .u64 y4
        bif decide (0 ≤ v5) then
          let v6 := shiftI .shl .u64 a2 v5
          let v7 := Int.fdiv v6 (2 ^ 32)
          bif decide (0 ≤ v5) then
            let v10 := IntKind.wrap .u64 (64 - v5)
            bif decide (0 ≤ v10) then
              let v12 := bits .or .u64 (shiftI .shl .u64 a0 v5) (shiftI .shr .u64 a1 v10)
              bif decide (0 ≤ v5) then
                let v13 := shiftI .shl .u64 a1 v5
                bif decide (v7 ≠ 0) then
                  let v16 := IntKind.wrap .u64 (Int.tdiv v12 v7)
                  (iter (f81.s0 K) K (v6, v5, v7, (bits .and .u64 v6 4294967295), v12, (Int.fdiv v13 (2 ^ 32)), (bits .and .u64 v13 4294967295), v16, (IntKind.wrap .u64 (v12 - (IntKind.wrap .u64 (v16 * v7)))))).bind fun y30 =>
                  let v37 := IntKind.wrap .u64 ((IntKind.wrap .u64 ((IntKind.wrap .u64 (y30.2.2.2.2.1 * 4294967296)) + y30.2.2.2.2.2.1)) - (IntKind.wrap .u64 (y30.2.2.2.2.2.2.2 * y30.1)))
                  bif decide (y30.2.2.1 ≠ 0) then
                    let v38 := IntKind.wrap .u64 (Int.tdiv v37 y30.2.2.1)
                    (iter (f81.s2 K) K (y30.1, y30.2.1, y30.2.2.1, y30.2.2.2.1, y30.2.2.2.2.2.2.1, y30.2.2.2.2.2.2.2, (IntKind.wrap .u64 (v37 - (IntKind.wrap .u64 (v38 * y30.2.2.1)))), v37, v38)).bind fun y52 =>
                    bif decide (0 ≤ y52.2.1) then
                      some ((IntKind.wrap .u64 ((IntKind.wrap .u64 (y52.2.2.2.1 * 4294967296)) + y52.2.2.2.2.2)), (shiftI .shr .u64 (IntKind.wrap .u64 ((IntKind.wrap .u64 ((IntKind.wrap .u64 (y52.2.2.2.2.1 * 4294967296)) + y52.2.2.1)) - (IntKind.wrap .u64 (y52.2.2.2.2.2 * y52.1)))) y52.2.1))
                    else
                      none
                  else
                    none
                else
                  none
              else
                none
            else
              none
          else
            none
        else
          none
def f81.F (K : Nat) (x : f81.Ty3) : Option (Int × Int) := f81.T K x.1 x.2.1 x.2.2
def f81.av (x : f81.Ty3) : List VV := [.int .u64 x.1, .int .u64 x.2.1, .int .u64 x.2.2]
def f81.bl (_x : f81.Ty3) : List (Nat × Blk) := []
def f81.inA : VS → Option (f81.Ty3)
  | ⟨[(0, .int .u64 a0), (1, .int .u64 a1), (2, .int .u64 a2)], [], 0⟩ => some (a0, a1, a2)
  | _ => none
def f81.o0 (y : Int × Int) : VS := ⟨[(0, .tup [.int .u64 y.1, .int .u64 y.2])], [], 0⟩
def f81.des : ∀ α : Type, (Int × Int) → (VS → Option α) → Option α := (dv1 f81.o0)
def f81.out : Int × Int → VS := f81.o0
def f81.inR : VS → Option (Int × Int)
  | ⟨[(0, .tup [.int .u64 y_0, .int .u64 y_1])], [], 0⟩ => some (y_0, y_1)
  | _ => none
noncomputable def f81.E (K : Nat) : Entry := genE 0 f81.inA (f81.F K) f81.des
theorem f81.eq (K : Nat) (x : f81.Ty3) : f81.F K x = xrun (getA tys) (tabSp (f81.tab K)) Try.f81.ntmps 0 (f81.lp K) 400 f81.c ⟨initL 0 (f81.av x), f81.bl x, 0⟩ (contF (getA tys) 0 Try.f81.results.toList f81.inR) := by kernel_rfl
theorem f81.ok (K : Nat) : EntryOK Try.prog 81 (f81.E K) :=
  gen_ok mix tys_ok (f81.tabOK K) Try.func81 (by kernel_rfl : Try.f81.body = some f81.c) (by kernel_rfl) (f81.loops K) (av := f81.av) (bl := f81.bl) (out := f81.out) (fuel := 400)
    (by intro s x h; unfold f81.inA at h; split at h <;> simp at h; subst h; rfl) (fun _ => Nat.le_of_ble_eq_true rfl)
    (by intro s y h; unfold f81.inR at h; split at h <;> simp at h <;> subst h <;> rfl) (fun _ _ _ => rfl) (f81.eq K)
end Go.Proofs

namespace Go.Proofs
open Go.VM
end Go.Proofs

namespace Go.Proofs
open Go.VM
end Go.Proofs

namespace Go.Proofs
open Go.VM
end Go.Proofs

namespace Go.Proofs
open Go.VM
abbrev f54.Ty0 := Int × Int × Int × Int × List Int × List Int × List Int × List Int
abbrev f54.Ty1 := Int × Int × List Int × List Int × List Int × List Int
abbrev f54.Ty2 := Int × Int × Int × List Int × List Int × List Int
abbrev f54.Ty3 := List Int × List Int × List Int
abbrev f54.Ty4 := Int × List Int
abbrev f54.Ty5 := List Int × Int
noncomputable def f54.c : Code := bodyOf Try.f54
def f54.s2t (K : Nat) (rec : f54.Ty0 → Option (f54.Ty2)) (t8 : Int) (t28 : Int) (t29 : Int) (t33 : Int) (b0 : List Int) (b1 : List Int) (b2 : List Int) (b3 : List Int) : Option (f54.Ty2) :=
  bif (decide (t33 < 4)) then
    let v10 := IntKind.wrap .i64 (3 - t33)
    bif decide (0 ≤ v10 ∧ v10 < 4) then
      (f81.F K (t8, (List.getD b2 (Int.toNat v10) 0), (List.getD b0 0 0))).bind fun y14 =>
      rec (y14.2, t28, t29, (IntKind.wrap .i64 (t33 + 1)), b0, b1, b2, b3)
    else
      none
  else
    some (t8, t28, t29, b0, b1, b3)
def f54.s2 (K : Nat) (rec : f54.Ty0 → Option (f54.Ty2)) (x : f54.Ty0) : Option (f54.Ty2) := f54.s2t K rec x.1 x.2.1 x.2.2.1 x.2.2.2.1 x.2.2.2.2.1 x.2.2.2.2.2.1 x.2.2.2.2.2.2.1 x.2.2.2.2.2.2.2
noncomputable def f54.s2.b : Code := (findLoop 2 f54.c).getD .skip
def f54.s2.h : Hint := { lv := [5, 6, 8, 10, 27, 28, 29, 33] }
def f54.s2.ho : Hint := { lv := [5, 6, 8, 27, 28, 29] }
def f54.s2.shp (x : f54.Ty0) : VS := ⟨[(5, .ptr 0 0), (6, .ptr 1 0), (8, .int .u64 x.1), (10, .ptr 2 0), (27, .sl 3 0 2 2), (28, .int .i64 x.2.1), (29, .int .i64 x.2.2.1), (33, .int .i64 x.2.2.2.1)], [(0, ([.ints .u64 4 x.2.2.2.2.1], 39, .norm)), (1, ([.ints .u64 4 x.2.2.2.2.2.1], 39, .norm)), (2, ([.ints .u64 4 x.2.2.2.2.2.2.1], 39, .norm)), (3, ([.ints .u64 8 x.2.2.2.2.2.2.2], 39, .norm))], 4⟩
def f54.s2.inX : VS → Option (f54.Ty0)
  | ⟨[(5, .ptr 0 0), (6, .ptr 1 0), (8, .int .u64 t8), (10, .ptr 2 0), (27, .sl 3 0 2 2), (28, .int .i64 t28), (29, .int .i64 t29), (33, .int .i64 t33)], [(0, ([.ints .u64 4 b0], 39, .norm)), (1, ([.ints .u64 4 b1], 39, .norm)), (2, ([.ints .u64 4 b2], 39, .norm)), (3, ([.ints .u64 8 b3], 39, .norm))], 4⟩ => some (t8, t28, t29, t33, b0, b1, b2, b3)
  | _ => none
def f54.s2.o0 (y : f54.Ty2) : VS := ⟨[(5, .ptr 0 0), (6, .ptr 1 0), (8, .int .u64 y.1), (27, .sl 2 0 2 2), (28, .int .i64 y.2.1), (29, .int .i64 y.2.2.1)], [(0, ([.ints .u64 4 y.2.2.2.1], 39, .norm)), (1, ([.ints .u64 4 y.2.2.2.2.1], 39, .norm)), (2, ([.ints .u64 8 y.2.2.2.2.2], 39, .norm))], 3⟩
def f54.s2.des : ∀ α : Type, (f54.Ty2) → (Ex → VS → Option α) → Option α := (des1 (.exit 2) f54.s2.o0)
def f54.s2.out : f54.Ty2 → Ex × VS := (fun y => (.exit 2, f54.s2.o0 y))
theorem f54.s2.desOK : ∀ α y (k : Ex → VS → Option α), f54.s2.des α y k = k (f54.s2.out y).1 (f54.s2.out y).2 := (fun _ _ _ => rfl)
def f54.s2.inY : Ex → VS → Option (f54.Ty2)
  | .exit 2, ⟨[(5, .ptr 0 0), (6, .ptr 1 0), (8, .int .u64 t8), (27, .sl 2 0 2 2), (28, .int .i64 t28), (29, .int .i64 t29)], [(0, ([.ints .u64 4 b0], 39, .norm)), (1, ([.ints .u64 4 b1], 39, .norm)), (2, ([.ints .u64 8 b2], 39, .norm))], 3⟩ => some (t8, t28, t29, b0, b1, b2)
  | _, _ => none
def f54.s0t (K : Nat) (rec : f54.Ty2 → Option (f54.Ty4)) (t8 : Int) (t28 : Int) (t29 : Int) (b0 : List Int) (b1 : List Int) (b2 : List Int) : Option (f54.Ty4) :=
  bif (decide (t29 < t28)) then
    bif decide (0 ≤ t29 ∧ t29 < 2) then
      (iter (f54.s2 K) K (t8, t28, t29, 0, b0, b1, (List.take 4 (List.drop ((Int.toNat t29) * 4) b2)), b2)).bind fun y16 =>
      rec (y16.1, y16.2.1, (IntKind.wrap .i64 (y16.2.2.1 + 1)), y16.2.2.2.1, y16.2.2.2.2.1, y16.2.2.2.2.2)
    else
      none
  else
    some (t8, b1)
def f54.s0 (K : Nat) (rec : f54.Ty2 → Option (f54.Ty4)) (x : f54.Ty2) : Option (f54.Ty4) := f54.s0t K rec x.1 x.2.1 x.2.2.1 x.2.2.2.1 x.2.2.2.2.1 x.2.2.2.2.2
noncomputable def f54.s0.b : Code := (findLoop 0 f54.c).getD .skip
def f54.s0.h : Hint := { lv := [5, 6, 8, 27, 28, 29] }
def f54.s0.ho : Hint := { lv := [6, 8] }
def f54.s0.shp (x : f54.Ty2) : VS := ⟨[(5, .ptr 0 0), (6, .ptr 1 0), (8, .int .u64 x.1), (27, .sl 2 0 2 2), (28, .int .i64 x.2.1), (29, .int .i64 x.2.2.1)], [(0, ([.ints .u64 4 x.2.2.2.1], 39, .norm)), (1, ([.ints .u64 4 x.2.2.2.2.1], 39, .norm)), (2, ([.ints .u64 8 x.2.2.2.2.2], 39, .norm))], 3⟩
def f54.s0.inX : VS → Option (f54.Ty2)
  | ⟨[(5, .ptr 0 0), (6, .ptr 1 0), (8, .int .u64 t8), (27, .sl 2 0 2 2), (28, .int .i64 t28), (29, .int .i64 t29)], [(0, ([.ints .u64 4 b0], 39, .norm)), (1, ([.ints .u64 4 b1], 39, .norm)), (2, ([.ints .u64 8 b2], 39, .norm))], 3⟩ => some (t8, t28, t29, b0, b1, b2)
  | _ => none
def f54.s0.o0 (y : f54.Ty4) : VS := ⟨[(6, .ptr 0 0), (8, .int .u64 y.1)], [(0, ([.ints .u64 4 y.2], 39, .norm))], 1⟩
def f54.s0.des : ∀ α : Type, (f54.Ty4) → (Ex → VS → Option α) → Option α := (des1 (.exit 0) f54.s0.o0)
def f54.s0.out : f54.Ty4 → Ex × VS := (fun y => (.exit 0, f54.s0.o0 y))
theorem f54.s0.desOK : ∀ α y (k : Ex → VS → Option α), f54.s0.des α y k = k (f54.s0.out y).1 (f54.s0.out y).2 := (fun _ _ _ => rfl)
def f54.s0.inY : Ex → VS → Option (f54.Ty4)
  | .exit 0, ⟨[(6, .ptr 0 0), (8, .int .u64 t8)], [(0, ([.ints .u64 4 b0], 39, .norm))], 1⟩ => some (t8, b0)
  | _, _ => none
def f54.s4t (K : Nat) (rec : f54.Ty1 → Option (List Int)) (t76 : Int) (t77 : Int) (b0 : List Int) (b1 : List Int) (b2 : List Int) (b3 : List Int) : Option (List Int) :=
  bif (decide (t77 < t76)) then
    (f83.F K (b0, t77)).bind fun y29 =>
    bif (y29 == 1) then
      (f82.F K (b2, b3, b1)).bind fun y30 =>
      (f82.F K (b3, b3, b1)).bind fun y31 =>
      rec (t76, (IntKind.wrap .i64 (t77 + 1)), b0, b1, y30, y31)
    else
      (f82.F K (b3, b3, b1)).bind fun y33 =>
      rec (t76, (IntKind.wrap .i64 (t77 + 1)), b0, b1, b2, y33)
  else
    some b2
def f54.s4 (K : Nat) (rec : f54.Ty1 → Option (List Int)) (x : f54.Ty1) : Option (List Int) := f54.s4t K rec x.1 x.2.1 x.2.2.1 x.2.2.2.1 x.2.2.2.2.1 x.2.2.2.2.2
noncomputable def f54.s4.b : Code := (findLoop 4 f54.c).getD .skip
def f54.s4.h : Hint := { lv := [4, 5, 6, 15, 76, 77] }
def f54.s4.ho : Hint := { lv := [6] }
def f54.s4.shp (x : f54.Ty1) : VS := ⟨[(4, .ptr 0 0), (5, .ptr 1 0), (6, .ptr 2 0), (15, .ptr 3 0), (76, .int .i64 x.1), (77, .int .i64 x.2.1)], [(0, ([.ints .u64 4 x.2.2.1], 39, .norm)), (1, ([.ints .u64 4 x.2.2.2.1], 39, .norm)), (2, ([.ints .u64 4 x.2.2.2.2.1], 39, .norm)), (3, ([.ints .u64 4 x.2.2.2.2.2], 39, .norm))], 4⟩
def f54.s4.inX : VS → Option (f54.Ty1)
  | ⟨[(4, .ptr 0 0), (5, .ptr 1 0), (6, .ptr 2 0), (15, .ptr 3 0), (76, .int .i64 t76), (77, .int .i64 t77)], [(0, ([.ints .u64 4 b0], 39, .norm)), (1, ([.ints .u64 4 b1], 39, .norm)), (2, ([.ints .u64 4 b2], 39, .norm)), (3, ([.ints .u64 4 b3], 39, .norm))], 4⟩ => some (t76, t77, b0, b1, b2, b3)
  | _ => none
def f54.s4.o0 (y : List Int) : VS := ⟨[(6, .ptr 0 0)], [(0, ([.ints .u64 4 y], 39, .norm))], 1⟩
def f54.s4.des : ∀ α : Type, (List Int) → (Ex → VS → Option α) → Option α := (des1 (.exit 4) f54.s4.o0)
def f54.s4.out : List Int → Ex × VS := (fun y => (.exit 4, f54.s4.o0 y))
theorem f54.s4.desOK : ∀ α y (k : Ex → VS → Option α), f54.s4.des α y k = k (f54.s4.out y).1 (f54.s4.out y).2 := (fun _ _ _ => rfl)
def f54.s4.inY : Ex → VS → Option (List Int)
  | .exit 4, ⟨[(6, .ptr 0 0)], [(0, ([.ints .u64 4 b0], 39, .norm))], 1⟩ => some b0
  | _, _ => none
def f54.lp (K : Nat) : Nat → Option (Hint × Summ) := tabLp [(2, f54.s2.h, summOf (iter (f54.s2 K) K) f54.s2.inX f54.s2.des), (0, f54.s0.h, summOf (iter (f54.s0 K) K) f54.s0.inX f54.s0.des), (4, f54.s4.h, summOf (iter (f54.s4 K) K) f54.s4.inX f54.s4.des)]
noncomputable def f54.tab (K : Nat) : List (Nat × Entry) := [(65, (f65.E K)), (66, (f66.E K)), (81, (f81.E K)), (33, (f33.E K)), (67, (f67.E K)), (36, (f36.E K)), (82, (f82.E K)), (83, (f83.E K))]
theorem f54.tabOK (K : Nat) : SpecOK Try.prog (tabSp (f54.tab K)) := tab_ok ((tab_cons (f65.ok K) (tab_cons (f66.ok K) (tab_cons (f81.ok K) (tab_cons (f33.ok K) (tab_cons (f67.ok K) (tab_cons (f36.ok K) (tab_cons (f82.ok K) (tab_cons (f83.ok K) tab_nil)))))))))
theorem f54.s2.eq (K : Nat) (rec : f54.Ty0 → Option (f54.Ty2)) (x : f54.Ty0) : f54.s2 K rec x = roundL (getA tys) (tabSp (f54.tab K)) 94 0 (f54.lp K) 400 f54.s2.b f54.s2.h f54.s2.ho f54.s2.shp f54.s2.inX f54.s2.inY rec x := by kernel_rfl
theorem f54.s2.lok (K : Nat) : LoopsOK Try.prog 94 0 (f54.lp K) f54.s2.b := loops_ok (by
  have h : loopsIn (f54.lp K) f54.s2.b = [] := by kernel_rfl
  rw [h]; simp)
theorem f54.s2.ok (K : Nat) : SummOK Try.prog 94 0 (summOf (iter (f54.s2 K) K) f54.s2.inX f54.s2.des) f54.s2.b :=
  loop_ok mix tys_ok (f54.tabOK K) (h := f54.s2.h) (ho := f54.s2.ho) (shp := f54.s2.shp) (inX := f54.s2.inX) (des := f54.s2.des) (out := f54.s2.out) (inY := f54.s2.inY) (fuel := 400)
    (by intro st x h; unfold f54.s2.inX at h; split at h <;> simp at h; subst h; rfl)
    (by intro e st y h; unfold f54.s2.inY at h; split at h <;> simp at h <;> subst h <;> rfl)
    f54.s2.desOK (f54.s2.lok K) (f54.s2 K) (f54.s2.eq K) K
theorem f54.s0.eq (K : Nat) (rec : f54.Ty2 → Option (f54.Ty4)) (x : f54.Ty2) : f54.s0 K rec x = roundL (getA tys) (tabSp (f54.tab K)) 94 0 (f54.lp K) 400 f54.s0.b f54.s0.h f54.s0.ho f54.s0.shp f54.s0.inX f54.s0.inY rec x := by kernel_rfl
theorem f54.s0.lok (K : Nat) : LoopsOK Try.prog 94 0 (f54.lp K) f54.s0.b := loops_ok (by
  have h : loopsIn (f54.lp K) f54.s0.b = [(2, f54.s2.b)] := by kernel_rfl
  rw [h]
  intro p hp
  simp only [List.mem_cons, List.not_mem_nil, or_false] at hp
  rcases hp with rfl
  · exact ⟨_, rfl, (f54.s2.ok K)⟩)
theorem f54.s0.ok (K : Nat) : SummOK Try.prog 94 0 (summOf (iter (f54.s0 K) K) f54.s0.inX f54.s0.des) f54.s0.b :=
  loop_ok mix tys_ok (f54.tabOK K) (h := f54.s0.h) (ho := f54.s0.ho) (shp := f54.s0.shp) (inX := f54.s0.inX) (des := f54.s0.des) (out := f54.s0.out) (inY := f54.s0.inY) (fuel := 400)
    (by intro st x h; unfold f54.s0.inX at h; split at h <;> simp at h; subst h; rfl)
    (by intro e st y h; unfold f54.s0.inY at h; split at h <;> simp at h <;> subst h <;> rfl)
    f54.s0.desOK (f54.s0.lok K) (f54.s0 K) (f54.s0.eq K) K
theorem f54.s4.eq (K : Nat) (rec : f54.Ty1 → Option (List Int)) (x : f54.Ty1) : f54.s4 K rec x = roundL (getA tys) (tabSp (f54.tab K)) 94 0 (f54.lp K) 400 f54.s4.b f54.s4.h f54.s4.ho f54.s4.shp f54.s4.inX f54.s4.inY rec x := by kernel_rfl
theorem f54.s4.lok (K : Nat) : LoopsOK Try.prog 94 0 (f54.lp K) f54.s4.b := loops_ok (by
  have h : loopsIn (f54.lp K) f54.s4.b = [] := by kernel_rfl
  rw [h]; simp)
theorem f54.s4.ok (K : Nat) : SummOK Try.prog 94 0 (summOf (iter (f54.s4 K) K) f54.s4.inX f54.s4.des) f54.s4.b :=
  loop_ok mix tys_ok (f54.tabOK K) (h := f54.s4.h) (ho := f54.s4.ho) (shp := f54.s4.shp) (inX := f54.s4.inX) (des := f54.s4.des) (out := f54.s4.out) (inY := f54.s4.inY) (fuel := 400)
    (by intro st x h; unfold f54.s4.inX at h; split at h <;> simp at h; subst h; rfl)
    (by intro e st y h; unfold f54.s4.inY at h; split at h <;> simp at h <;> subst h <;> rfl)
    f54.s4.desOK (f54.s4.lok K) (f54.s4 K) (f54.s4.eq K) K
theorem f54.loops (K : Nat) : LoopsOK Try.prog 94 0 (f54.lp K) f54.c := loops_ok (by
  have h : loopsIn (f54.lp K) f54.c = [(0, f54.s0.b), (2, f54.s2.b), (4, f54.s4.b)] := by kernel_rfl
  rw [h]
  intro p hp
  simp only [List.mem_cons, List.not_mem_nil, or_false] at hp
  rcases hp with rfl | rfl | rfl
  · exact ⟨_, rfl, (f54.s0.ok K)⟩
  · exact ⟨_, rfl, (f54.s2.ok K)⟩
  · exact ⟨_, rfl, (f54.s4.ok K)⟩)
def f54.T (K : Nat) (a0 : List Int) (a1 : List Int) (a2 : List Int) : Option (f54.Ty5) :=
  (f65.F K ()).bind fun y1 =>
  bif (eqL 4 a2 y1 && true) then
    some ([0, 0, 0, 0], 1)
  else
    (f66.F K a2).bind fun y3 =>
    bif (decide (y3 ≤ 64)) then
      (iter (f54.s0 K) K (0, 2, 0, a2, [0, 0, 0, 0], (spl (spl [] 0 4 a1) 4 4 a0))).bind fun y18 =>
      (f33.F K y18.1).bind fun y19 =>
      some (y19, 0)
    else
      (f65.F K ()).bind fun y20 =>
      (f33.F K 1).bind fun y21 =>
      (f67.F K (y20, y21)).bind fun y22 =>
      (f36.F K (a0, a2)).bind fun y23 =>
      (f36.F K (y22.1, a2)).bind fun y24 =>
      (f33.F K 1).bind fun y25 =>
      (f82.F K (y24.2.1, y25, a2)).bind fun y26 =>
      (f66.F K a1).bind fun y27 =>
      (iter (f54.s4 K) K (y27, 0, a1, a2, y23.2.1, y26)).bind fun y35 =>
      some (y35, 0)
def f54.F (K : Nat) (x : f54.Ty3) : Option (f54.Ty5) := f54.T K x.1 x.2.1 x.2.2
def f54.av (x : f54.Ty3) : List VV := [.agg [.ints .u64 4 x.1], .agg [.ints .u64 4 x.2.1], .agg [.ints .u64 4 x.2.2]]
def f54.bl (_x : f54.Ty3) : List (Nat × Blk) := []
def f54.inA : VS → Option (f54.Ty3)
  | ⟨[(0, .agg [.ints .u64 4 a0]), (1, .agg [.ints .u64 4 a1]), (2, .agg [.ints .u64 4 a2])], [], 0⟩ => some (a0, a1, a2)
  | _ => none
def f54.o0 (y : f54.Ty5) : VS := ⟨[(0, .tup [.agg [.ints .u64 4 y.1], .int .i64 y.2])], [], 0⟩
def f54.des : ∀ α : Type, (f54.Ty5) → (VS → Option α) → Option α := (dv1 f54.o0)
def f54.out : f54.Ty5 → VS := f54.o0
def f54.inR : VS → Option (f54.Ty5)
  | ⟨[(0, .tup [.agg [.ints .u64 4 y_0], .int .i64 y_1])], [], 0⟩ => some (y_0, y_1)
  | _ => none
noncomputable def f54.E (K : Nat) : Entry := genE 0 f54.inA (f54.F K) f54.des
theorem f54.eq (K : Nat) (x : f54.Ty3) : f54.F K x = xrun (getA tys) (tabSp (f54.tab K)) Try.f54.ntmps 0 (f54.lp K) 400 f54.c ⟨initL 0 (f54.av x), f54.bl x, 0⟩ (contF (getA tys) 0 Try.f54.results.toList f54.inR) := by kernel_rfl
theorem f54.ok (K : Nat) : EntryOK Try.prog 54 (f54.E K) :=
  gen_ok mix tys_ok (f54.tabOK K) Try.func54 (by kernel_rfl : Try.f54.body = some f54.c) (by kernel_rfl) (f54.loops K) (av := f54.av) (bl := f54.bl) (out := f54.out) (fuel := 400)
    (by intro s x h; unfold f54.inA at h; split at h <;> simp at h; subst h; rfl) (fun _ => Nat.le_of_ble_eq_true rfl)
    (by intro s y h; unfold f54.inR at h; split at h <;> simp at h <;> subst h <;> rfl) (fun _ _ _ => rfl) (f54.eq K)
end Go.Proofs

namespace Go.Proofs
open Go.VM
end Go.Proofs

namespace Go.Proofs
open Go.VM
def Sh.cut (name : List Int) (ps : List (List Int)) : List Int := Sh.frame name ++ be 4 ps.length ++ ps.flatMap Sh.frame
def Sh.sha (name : List Int) (ps : List (List Int)) : List Int := Sh.sum (Sh.cut name ps)
theorem Sh.rep0 : Sh.Rep [] [0, 0, 0, 0, 0, 0, 0, 0, 0, 0, 0, 0, 0, 0, 0, 0, 0, 0, 0, 0, 0, 0, 0, 0, 0, 0, 0, 0, 0, 0, 0, 0, 0, 0, 0, 0, 0, 0, 0, 0, 0, 0, 0, 0, 0, 0, 0, 0, 0, 0, 0, 0, 0, 0, 0, 0, 0, 0, 0, 0, 0, 0, 0, 0] 0 Sh.init :=
  ⟨rfl, by intro x hx; simp only [List.mem_cons, List.not_mem_nil, or_false, or_self] at hx; omega, rfl, rfl, rfl⟩
end Go.Proofs

namespace Go.Proofs
open Go.VM
abbrev f49.Ty0 := List Int × Int × Int × List Int
def f49.T (_K : Nat)  : Option (f49.Ty0) :=
  some ([0, 0, 0, 0, 0, 0, 0, 0, 0, 0, 0, 0, 0, 0, 0, 0, 0, 0, 0, 0, 0, 0, 0, 0, 0, 0, 0, 0, 0, 0, 0, 0, 0, 0, 0, 0, 0, 0, 0, 0, 0, 0, 0, 0, 0, 0, 0, 0, 0, 0, 0, 0, 0, 0, 0, 0, 0, 0, 0, 0, 0, 0, 0, 0], 0, 0, [1779033703, 3144134277, 1013904242, 2773480762, 1359893119, 2600822924, 528734635, 1541459225])
def f49.F (K : Nat) (_x : Unit) : Option (f49.Ty0) := f49.T K
def f49.av (_x : Unit) : List VV := []
def f49.bl (_x : Unit) : List (Nat × Blk) := []
def f49.inA : VS → Option (Unit)
  | ⟨[], [], 0⟩ => some ()
  | _ => none
def f49.o0 (y : f49.Ty0) : VS := ⟨[(0, .ptr 0 0)], [(0, ([.ptr 1 0, .ints .u8 64 y.1, .int .i64 y.2.1, .int .u64 y.2.2.1], 117, .norm)), (1, ([.ints .u32 8 y.2.2.2], 113, .norm))], 2⟩
def f49.inR : VS → Option (f49.Ty0)
  | ⟨[(0, .ptr 0 0)], [(0, ([.ptr 1 0, .ints .u8 64 z0_0, .int .i64 z0_1, .int .u64 z0_2], 117, .norm)), (1, ([.ints .u32 8 z1], 113, .norm))], 2⟩ => some (z0_0, z0_1, z0_2, z1)
  | _ => none
noncomputable def f49.E (K : Nat) : Entry := genE 0 f49.inA (f49.F K) (dv1 f49.o0)
theorem f49.ok (K : Nat) : EntryOK Try.prog 49 (f49.E K) := gen_ok mix tys_ok (tab_ok ( tab_nil)) Try.func49 (c := bodyOf Try.f49) (by kernel_rfl) (by kernel_rfl) (loops_none (lp := lpNone) (by kernel_rfl)) (av := f49.av) (bl := f49.bl) (inR := f49.inR) (out := f49.o0) (fuel := 400)
  (by intro s x h; unfold f49.inA at h; split at h <;> simp at h; rfl) (fun _ => Nat.le_of_ble_eq_true rfl)
  (by intro s y h; unfold f49.inR at h; split at h <;> simp at h <;> subst h <;> rfl) (fun _ _ _ => rfl) (fun _ => by kernel_rfl)
end Go.Proofs

namespace Go.Proofs
open Go.VM
abbrev f30.Ty0 := List Int × Nat × List Int
abbrev f30.Ty1 := Nat × Nat × List Int
def f30.T (K : Nat) (a0 : Nat) (m0_0 : Nat) (m0_1 : List Int) : Option (f30.Ty0) :=
  (f49.F K ()).bind fun y1 =>
  bif ((Nat.ble (0 + a0) m0_0 && true) && true) then
    (f57.F K (y1.1, y1.2.1, y1.2.2.1, a0, y1.2.2.2, a0, (subI m0_1 0 a0))).bind fun y2 =>
    (f51.F K (y2.1, y2.2.1, y2.2.2.1, y2.2.2.2.2.2.2)).bind fun y3 =>
    some (y3.1, m0_0, m0_1)
  else
    none
def f30.F (K : Nat) (x : f30.Ty1) : Option (f30.Ty0) := f30.T K x.1 x.2.1 x.2.2
def f30.av (x : f30.Ty1) : List VV := [.vw true 0 0 x.1 1]
def f30.bl (x : f30.Ty1) : List (Nat × Blk) := [(0, ([.ints .u8 x.2.1 x.2.2], 0, .ro))]
def f30.inA : VS → Option (f30.Ty1)
  | ⟨[(0, .vw true 0 0 a0 1)], [(0, ([.ints .u8 m0_0 m0_1], 0, .ro))], 2⟩ => some (a0, m0_0, m0_1)
  | _ => none
def f30.o0 (y : f30.Ty0) : VS := ⟨[(0, .agg [.ints .u8 32 y.1])], [(0, ([.ints .u8 y.2.1 y.2.2], 0, .ro))], 2⟩
def f30.inR : VS → Option (f30.Ty0)
  | ⟨[(0, .agg [.ints .u8 32 y])], [(0, ([.ints .u8 z0_0 z0_1], 0, .ro))], 2⟩ => some (y, z0_0, z0_1)
  | _ => none
noncomputable def f30.E (K : Nat) : Entry := genE 2 f30.inA (f30.F K) (dv1 f30.o0)
theorem f30.ok (K : Nat) : EntryOK Try.prog 30 (f30.E K) := gen_ok mix tys_ok (sp := tabSp [(49, (f49.E K)), (57, (rowsE 1 .u8 (f57.E K))), (51, (f51.E K))]) (tab_ok ((tab_cons (f49.ok K) (tab_cons (rows_ok (f57.ok K)) (tab_cons (f51.ok K) tab_nil))))) Try.func30 (c := bodyOf Try.f30) (by kernel_rfl) (by kernel_rfl) (loops_none (lp := lpNone) (by kernel_rfl)) (av := f30.av) (bl := f30.bl) (inR := f30.inR) (out := f30.o0) (fuel := 400)
  (by intro s x h; unfold f30.inA at h; split at h <;> simp at h; subst h; rfl) (fun _ => Nat.le_of_ble_eq_true rfl)
  (by intro s y h; unfold f30.inR at h; split at h <;> simp at h <;> subst h <;> rfl) (fun _ _ _ => rfl) (fun _ => by kernel_rfl)
end Go.Proofs

namespace Go.Proofs
open Go.VM
end Go.Proofs

namespace Go.Proofs
open Go.VM
end Go.Proofs

namespace Go.Proofs
open Go.VM
theorem f30.spec (K n : Nat) (m : List Int) (hm : m.length = n) (ho : octets m) (hn : n ≤ 1000000000000) (hK : 300 + n < K) : f30.F K (n, n, m) = some (Sh.sum m, n, m) := by
  simp only [f30.F, f30.T]
  rw [show f49.F K () = some ([0, 0, 0, 0, 0, 0, 0, 0, 0, 0, 0, 0, 0, 0, 0, 0, 0, 0, 0, 0, 0, 0, 0, 0, 0, 0, 0, 0, 0, 0, 0, 0, 0, 0, 0, 0, 0, 0, 0, 0, 0, 0, 0, 0, 0, 0, 0, 0, 0, 0, 0, 0, 0, 0, 0, 0, 0, 0, 0, 0, 0, 0, 0, 0], 0, 0, Sh.init) from rfl, bind_s]
  simp only []
  rw [Nat.zero_add, ble_true (Nat.le_refl n), Bool.and_self, Bool.and_self, cond_t, subI_self _ hm]
  obtain ⟨b', h', s', e, R⟩ := f57.spec K [] n m hm ho hn _ _ _ Sh.rep0 (by omega)
  rw [show f57.F K ([0, 0, 0, 0, 0, 0, 0, 0, 0, 0, 0, 0, 0, 0, 0, 0, 0, 0, 0, 0, 0, 0, 0, 0, 0, 0, 0, 0, 0, 0, 0, 0, 0, 0, 0, 0, 0, 0, 0, 0, 0, 0, 0, 0, 0, 0, 0, 0, 0, 0, 0, 0, 0, 0, 0, 0, 0, 0, 0, 0, 0, 0, 0, 0], 0, 0, n, Sh.init, n, m) = _ from e, bind_s]
  simp only []
  rw [f51.spec K _ _ _ _ R (by omega), bind_s]
  rfl
theorem list_getD {l m : List Int} (h : l.length = m.length) (g : ∀ i, i < l.length → l.getD i 0 = m.getD i 0) : l = m := by
  apply List.ext_getElem h
  intro i h1 h2
  have := g i h1
  simpa [List.getD_eq_getElem?_getD, h1, h2] using this
def Sh.key (k : List Int) : List Int := padT (if 64 < k.length then Sh.sum k else k) 64
end Go.Proofs

namespace Go.Proofs
open Go.VM
end Go.Proofs

namespace Go.Proofs
open Go.VM
end Go.Proofs

namespace Go.Proofs
open Go.VM
theorem take_next {l : List Int} {i : Nat} (h : i < l.length) : l.take i ++ [l.getD i 0] = l.take (i + 1) := by
  rw [List.take_add_one, List.getElem?_eq_getElem h]; simp [List.getD_eq_getElem?_getD, h]
end Go.Proofs

namespace Go.Proofs
open Go.VM
def Rf.round (x : Int) (n : Nat) : Int := bits .or .u32 (shiftI .shr .u32 x (n : Int)) (shiftI .shl .u32 x ((32 - n : Nat) : Int))
def Rf.s0 (x : Int) : Int := bits .xor .u32 (bits .xor .u32 (Rf.round x 7) (Rf.round x 18)) (Int.fdiv x (2 ^ 3))
def Rf.s1 (x : Int) : Int := bits .xor .u32 (bits .xor .u32 (Rf.round x 17) (Rf.round x 19)) (Int.fdiv x (2 ^ 10))
def Rf.w (b : List Int) : Nat → Int
  | t => if t < 16 then IntKind.wrap .u32 ((tv (subI b (4 * t) 4) : Nat) : Int)
    else if h : 16 ≤ t then IntKind.wrap .u32 ((IntKind.wrap .u32 ((IntKind.wrap .u32 (Rf.w b (t - 16) + Rf.w b (t - 7))) + Rf.s0 (Rf.w b (t - 15)))) + Rf.s1 (Rf.w b (t - 2)))
    else 0
termination_by t => t
def Rf.step (b : List Int) (t : Nat) (l : List Int) : List Int :=
  let a := List.getD l 0 0
  let e := List.getD l 4 0
  let t1 := IntKind.wrap .u32 ((IntKind.wrap .u32 ((IntKind.wrap .u32 ((IntKind.wrap .u32 ((List.getD l 7 0) + (bits .xor .u32 (bits .xor .u32 (Rf.round e 6) (Rf.round e 11)) (Rf.round e 25)))) + (bits .xor .u32 (bits .and .u32 e (List.getD l 5 0)) (bits .and .u32 (bits .xor .u32 4294967295 e) (List.getD l 6 0))))) + (List.getD Sh.consts t 0))) + Rf.w b t)
  [IntKind.wrap .u32 (t1 + (IntKind.wrap .u32 ((bits .xor .u32 (bits .xor .u32 (Rf.round a 2) (Rf.round a 13)) (Rf.round a 22)) + (bits .or .u32 (bits .or .u32 (bits .and .u32 a (List.getD l 1 0)) (bits .and .u32 a (List.getD l 2 0))) (bits .and .u32 (List.getD l 1 0) (List.getD l 2 0)))))), a, List.getD l 1 0, List.getD l 2 0, IntKind.wrap .u32 (List.getD l 3 0 + t1), e, List.getD l 5 0, List.getD l 6 0]
def Rf.rounds (s b : List Int) : Nat → List Int
  | 0 => s
  | t + 1 => Rf.step b t (Rf.rounds s b t)
end Go.Proofs

namespace Go.Proofs
open Go.VM
end Go.Proofs

namespace Go.Proofs
open Go.VM
end Go.Proofs

namespace Go.Proofs
open Go.VM
end Go.Proofs

namespace Go.Proofs
open Go.VM
def Rf.tab (b : List Int) (i : Nat) : List Int := (List.range 64).map fun k => if k < i then Rf.w b k else 0
end Go.Proofs

namespace Go.Proofs
open Go.VM
end Go.Proofs

namespace Go.Proofs
open Go.VM
end Go.Proofs

namespace Go.Proofs
open Go.VM
end Go.Proofs

namespace Go.Proofs
open Go.VM
end Go.Proofs

namespace Go.Proofs
open Go.VM
end Go.Proofs

namespace Go.Proofs
open Go.VM
end Go.Proofs

namespace Go.Proofs
open Go.VM
theorem eqL_refl (n : Nat) (l : List Int) : eqL n l l = true := by simp [eqL]
end Go.Proofs

namespace Go.Proofs
open Go.VM
abbrev f78.Ty0 := Int × Nat × List Int
abbrev f78.Ty1 := Nat × Nat × List Int
def f78.T (_K : Nat) (a0 : Nat) (m0_0 : Nat) (m0_1 : List Int) : Option (f78.Ty0) :=
  some (((a0 : Nat) : Int), m0_0, m0_1)
def f78.F (K : Nat) (x : f78.Ty1) : Option (f78.Ty0) := f78.T K x.1 x.2.1 x.2.2
def f78.av (x : f78.Ty1) : List VV := [.vw true 0 0 x.1 1]
def f78.bl (x : f78.Ty1) : List (Nat × Blk) := [(0, ([.ints .u8 x.2.1 x.2.2], 0, .ro))]
def f78.inA : VS → Option (f78.Ty1)
  | ⟨[(0, .vw true 0 0 a0 1)], [(0, ([.ints .u8 m0_0 m0_1], 0, .ro))], 2⟩ => some (a0, m0_0, m0_1)
  | _ => none
def f78.o0 (y : f78.Ty0) : VS := ⟨[(0, .int .i64 y.1)], [(0, ([.ints .u8 y.2.1 y.2.2], 0, .ro))], 2⟩
def f78.inR : VS → Option (f78.Ty0)
  | ⟨[(0, .int .i64 y)], [(0, ([.ints .u8 z0_0 z0_1], 0, .ro))], 2⟩ => some (y, z0_0, z0_1)
  | _ => none
noncomputable def f78.E (K : Nat) : Entry := genE 2 f78.inA (f78.F K) (dv1 f78.o0)
theorem f78.ok (K : Nat) : EntryOK Try.prog 78 (f78.E K) := gen_ok mix tys_ok (tab_ok ( tab_nil)) Try.func78 (c := bodyOf Try.f78) (by kernel_rfl) (by kernel_rfl) (loops_none (lp := lpNone) (by kernel_rfl)) (av := f78.av) (bl := f78.bl) (inR := f78.inR) (out := f78.o0) (fuel := 400)
  (by intro s x h; unfold f78.inA at h; split at h <;> simp at h; subst h; rfl) (fun _ => Nat.le_of_ble_eq_true rfl)
  (by intro s y h; unfold f78.inR at h; split at h <;> simp at h <;> subst h <;> rfl) (fun _ _ _ => rfl) (fun _ => by kernel_rfl)
end Go.Proofs

namespace Go.Proofs
open Go.VM
abbrev f46.Ty0 := Nat × Int × Int × List Ent
abbrev f46.Ty1 := Int × List Ent
abbrev f46.Ty2 := Nat × List Ent
noncomputable def f46.c : Code := bodyOf Try.f46
def f46.s0t (K : Nat) (rec : f46.Ty0 → Option (f46.Ty1)) (t0 : Nat) (t3 : Int) (t4 : Int) (b0 : List Ent) : Option (f46.Ty1) :=
  bif (decide (t4 < ((t0 : Nat) : Int))) then
    bif (decide (t3 ≤ 1048576)) then
      bif decide (0 ≤ t4 ∧ t4 < ((t0 : Nat) : Int)) then
        let v5 := 0 + (Int.toNat t4)
        bif Nat.blt v5 (List.length b0) then
          let v6 := (entAt b0 v5).1
          bif ((Nat.ble (0 + v6) ((entAt b0 v5).1) && true) && true) then
            (f78.F K (v6, v6, (subI ((entAt b0 v5).2.2) 0 v6))).bind fun y9 =>
            rec (t0, (IntKind.wrap .i64 (t3 + y9.1)), (IntKind.wrap .i64 (t4 + 1)), b0)
          else
            none
        else
          none
      else
        none
    else
      some (t3, b0)
  else
    some (t3, b0)
def f46.s0 (K : Nat) (rec : f46.Ty0 → Option (f46.Ty1)) (x : f46.Ty0) : Option (f46.Ty1) := f46.s0t K rec x.1 x.2.1 x.2.2.1 x.2.2.2
noncomputable def f46.s0.b : Code := (findLoop 0 f46.c).getD .skip
def f46.s0.h : Hint := { lv := [0, 3, 4] }
def f46.s0.ho : Hint := { lv := [3] }
def f46.s0.shp (x : f46.Ty0) : VS := ⟨[(0, .vw true 0 0 x.1 1), (3, .int .i64 x.2.1), (4, .int .i64 x.2.2.1)], [(0, ([], 0, .rr false 2 x.2.2.2))], 3⟩
def f46.s0.inX : VS → Option (f46.Ty0)
  | ⟨[(0, .vw true 0 0 t0 1), (3, .int .i64 t3), (4, .int .i64 t4)], [(0, ([], 0, .rr false 2 b0))], 3⟩ => some (t0, t3, t4, b0)
  | _ => none
def f46.s0.o0 (y : f46.Ty1) : VS := ⟨[(3, .int .i64 y.1)], [(0, ([], 0, .rr false 2 y.2))], 3⟩
def f46.s0.des : ∀ α : Type, (f46.Ty1) → (Ex → VS → Option α) → Option α := (des1 (.exit 0) f46.s0.o0)
def f46.s0.out : f46.Ty1 → Ex × VS := (fun y => (.exit 0, f46.s0.o0 y))
theorem f46.s0.desOK : ∀ α y (k : Ex → VS → Option α), f46.s0.des α y k = k (f46.s0.out y).1 (f46.s0.out y).2 := (fun _ _ _ => rfl)
def f46.s0.inY : Ex → VS → Option (f46.Ty1)
  | .exit 0, ⟨[(3, .int .i64 t3)], [(0, ([], 0, .rr false 2 b0))], 3⟩ => some (t3, b0)
  | _, _ => none
def f46.lp (K : Nat) : Nat → Option (Hint × Summ) := tabLp [(0, f46.s0.h, summOf (iter (f46.s0 K) K) f46.s0.inX f46.s0.des)]
noncomputable def f46.tab (K : Nat) : List (Nat × Entry) := [(78, (viewE [(0, .u8)] (f78.E K)))]
theorem f46.tabOK (K : Nat) : SpecOK Try.prog (tabSp (f46.tab K)) := tab_ok ((tab_cons (view_ok (f78.ok K)) tab_nil))
theorem f46.s0.eq (K : Nat) (rec : f46.Ty0 → Option (f46.Ty1)) (x : f46.Ty0) : f46.s0 K rec x = roundL (getA tys) (tabSp (f46.tab K)) 25 3 (f46.lp K) 400 f46.s0.b f46.s0.h f46.s0.ho f46.s0.shp f46.s0.inX f46.s0.inY rec x := by kernel_rfl
theorem f46.s0.lok (K : Nat) : LoopsOK Try.prog 25 3 (f46.lp K) f46.s0.b := loops_ok (by
  have h : loopsIn (f46.lp K) f46.s0.b = [] := by kernel_rfl
  rw [h]; simp)
theorem f46.s0.ok (K : Nat) : SummOK Try.prog 25 3 (summOf (iter (f46.s0 K) K) f46.s0.inX f46.s0.des) f46.s0.b :=
  loop_ok mix tys_ok (f46.tabOK K) (h := f46.s0.h) (ho := f46.s0.ho) (shp := f46.s0.shp) (inX := f46.s0.inX) (des := f46.s0.des) (out := f46.s0.out) (inY := f46.s0.inY) (fuel := 400)
    (by intro st x h; unfold f46.s0.inX at h; split at h <;> simp at h; subst h; rfl)
    (by intro e st y h; unfold f46.s0.inY at h; split at h <;> simp at h <;> subst h <;> rfl)
    f46.s0.desOK (f46.s0.lok K) (f46.s0 K) (f46.s0.eq K) K
theorem f46.loops (K : Nat) : LoopsOK Try.prog 25 3 (f46.lp K) f46.c := loops_ok (by
  have h : loopsIn (f46.lp K) f46.c = [(0, f46.s0.b)] := by kernel_rfl
  rw [h]
  intro p hp
  simp only [List.mem_cons, List.not_mem_nil, or_false] at hp
  rcases hp with rfl
  · exact ⟨_, rfl, (f46.s0.ok K)⟩)
def f46.T (K : Nat) (a0 : Nat) (m0 : List Ent) : Option (f46.Ty1) :=
  (iter (f46.s0 K) K (a0, ((a0 : Nat) : Int), 0, m0)).bind fun y12 =>
  some (y12.1, y12.2)
def f46.F (K : Nat) (x : f46.Ty2) : Option (f46.Ty1) := f46.T K x.1 x.2
def f46.av (x : f46.Ty2) : List VV := [.vw true 0 0 x.1 1]
def f46.bl (x : f46.Ty2) : List (Nat × Blk) := [(0, ([], 0, .rr false 2 x.2))]
def f46.inA : VS → Option (f46.Ty2)
  | ⟨[(0, .vw true 0 0 a0 1)], [(0, ([], 0, .rr false 2 m0))], 3⟩ => some (a0, m0)
  | _ => none
def f46.o0 (y : f46.Ty1) : VS := ⟨[(0, .int .i64 y.1)], [(0, ([], 0, .rr false 2 y.2))], 3⟩
def f46.des : ∀ α : Type, (f46.Ty1) → (VS → Option α) → Option α := (dv1 f46.o0)
def f46.out : f46.Ty1 → VS := f46.o0
def f46.inR : VS → Option (f46.Ty1)
  | ⟨[(0, .int .i64 y)], [(0, ([], 0, .rr false 2 z0))], 3⟩ => some (y, z0)
  | _ => none
noncomputable def f46.E (K : Nat) : Entry := genE 3 f46.inA (f46.F K) f46.des
theorem f46.eq (K : Nat) (x : f46.Ty2) : f46.F K x = xrun (getA tys) (tabSp (f46.tab K)) Try.f46.ntmps 3 (f46.lp K) 400 f46.c ⟨initL 0 (f46.av x), f46.bl x, 3⟩ (contF (getA tys) 3 Try.f46.results.toList f46.inR) := by kernel_rfl
theorem f46.ok (K : Nat) : EntryOK Try.prog 46 (f46.E K) :=
  gen_ok mix tys_ok (f46.tabOK K) Try.func46 (by kernel_rfl : Try.f46.body = some f46.c) (by kernel_rfl) (f46.loops K) (av := f46.av) (bl := f46.bl) (out := f46.out) (fuel := 400)
    (by intro s x h; unfold f46.inA at h; split at h <;> simp at h; subst h; rfl) (fun _ => Nat.le_of_ble_eq_true rfl)
    (by intro s y h; unfold f46.inR at h; split at h <;> simp at h <;> subst h <;> rfl) (fun _ _ _ => rfl) (f46.eq K)
end Go.Proofs

namespace Go.Proofs
open Go.VM
end Go.Proofs

namespace Go.Proofs
open Go.VM
end Go.Proofs

namespace Go.Proofs
open Go.VM
end Go.Proofs

namespace Go.Proofs
open Go.VM
end Go.Proofs

namespace Go.Proofs
open Go.VM
def Rs.sh (e : Ent) : List Int := subI e.2.2 0 e.1
def Rs.ok (b : Nat) (ll : List Ent) : Prop := ∀ e ∈ ll, e.1 ≤ b ∧ octets (Rs.sh e)
def Rs.ents (ps : List (List Int)) : List Ent := ps.map fun l => (l.length, l.length, l)
def Rs.tot (ll : List Ent) : Nat := (ll.map (·.1)).sum
theorem Rs.sh_length (e : Ent) : (Rs.sh e).length = e.1 := subI_length _ _ _
theorem Rs.at_get {ll : List Ent} {i : Nat} (h : i < ll.length) : entAt ll i = ll[i] := by
  rw [entAt, List.getD_eq_getElem?_getD, List.getElem?_eq_getElem h]; rfl
theorem Rs.at_mem {ll : List Ent} {i : Nat} (h : i < ll.length) : entAt ll i ∈ ll := by
  rw [Rs.at_get h]; exact List.getElem_mem _
theorem Rs.take_next {ll : List Ent} {i : Nat} (h : i < ll.length) : ll.take (i + 1) = ll.take i ++ [entAt ll i] := by
  rw [List.take_add_one, List.getElem?_eq_getElem h, Rs.at_get h]; rfl
theorem Rs.tot_next {ll : List Ent} {i : Nat} (h : i < ll.length) : Rs.tot (ll.take (i + 1)) = Rs.tot (ll.take i) + (entAt ll i).1 := by
  rw [Rs.take_next h]; simp [Rs.tot]
theorem Rs.tot_mem {ll : List Ent} {e : Ent} (h : e ∈ ll) : e.1 ≤ Rs.tot ll := by
  induction ll with
  | nil => cases h
  | cons a l ih =>
    simp only [Rs.tot, List.map_cons, List.sum_cons] at ih ⊢
    rcases List.mem_cons.1 h with rfl | h
    · omega
    · have := ih h; omega
theorem Rs.tot_take (ll : List Ent) (i : Nat) : Rs.tot (ll.take i) ≤ Rs.tot ll := by
  induction ll generalizing i with
  | nil => simp
  | cons a l ih =>
    cases i with
    | zero => simp [Rs.tot]
    | succ i => simp only [Rs.tot, List.take_succ_cons, List.map_cons, List.sum_cons] at ih ⊢; have := ih i; omega
theorem Rs.ents_length (ps : List (List Int)) : (Rs.ents ps).length = ps.length := by simp [Rs.ents]
theorem Rs.ents_sh {ps : List (List Int)} {e : Ent} (h : e ∈ Rs.ents ps) : Rs.sh e ∈ ps ∧ e.2.2 = Rs.sh e := by
  obtain ⟨l, hl, rfl⟩ := List.mem_map.1 h
  have : Rs.sh (l.length, l.length, l) = l := subI_self l rfl
  rw [this]
  exact ⟨hl, rfl⟩
theorem Rs.ents_ok {ps : List (List Int)} {b : Nat} (h : ∀ p ∈ ps, octets p) (hb : ∀ e ∈ Rs.ents ps, e.1 ≤ b) : Rs.ok b (Rs.ents ps) := fun e he => ⟨hb e he, h _ (Rs.ents_sh he).1⟩
theorem Rs.blt {a b : Nat} (h : a < b) : Nat.blt a b = true := by simpa [Nat.blt_eq] using h
theorem f46.spec (K N : Nat) (ll : List Ent) (hN : ll.length = N) (hb : ∀ e ∈ ll, e.1 ≤ 140737488355328) (h60 : N ≤ 1000) (hK : N < K) : ∃ z, f46.F K (N, ll) = some (z, ll) ∧ (z ≤ 20000 → z = ((N + Rs.tot ll : Nat) : Int)) := by
  obtain ⟨y, hy, hI⟩ := iter_inv (stp := f46.s0 K) (fun m x => ∃ i, i ≤ N ∧ m = N - i ∧ N + Rs.tot (ll.take i) ≤ 1048576 + 140737488355328 ∧ x = (N, ((N + Rs.tot (ll.take i) : Nat) : Int), (i : Int), ll)) (fun y => y.2 = ll ∧ (y.1 ≤ 20000 → y.1 = ((N + Rs.tot ll : Nat) : Int))) (by
    rintro m x ⟨i, hi, rfl, hs, rfl⟩
    by_cases h : i < N
    · by_cases h2 : ((N + Rs.tot (ll.take i) : Nat) : Int) ≤ 1048576
      · right
        have hm := Rs.at_mem (ll := ll) (i := i) (by omega)
        have hb' := hb _ hm
        have ht := Rs.tot_next (ll := ll) (i := i) (by omega)
        refine ⟨_, N - (i + 1), by omega, ⟨i + 1, by omega, rfl, by omega, rfl⟩, fun rec => ?_⟩
        simp only [f46.s0, f46.s0t]
        rw [decide_eq_true (show (i : Int) < ((N : Nat) : Int) by omega), cond_t, decide_eq_true h2, cond_t, decide_eq_true (show (0 : Int) ≤ (i : Int) ∧ (i : Int) < ((N : Nat) : Int) by omega), cond_t, Int.toNat_natCast, Nat.zero_add, Rs.blt (show i < ll.length by omega), cond_t, Nat.zero_add, ble_true (Nat.le_refl _), Bool.and_self, Bool.and_self, cond_t]
        rw [show f78.F K ((entAt ll i).1, (entAt ll i).1, subI (entAt ll i).2.2 0 (entAt ll i).1) = some ((((entAt ll i).1 : Nat) : Int), (entAt ll i).1, subI (entAt ll i).2.2 0 (entAt ll i).1) from rfl, bind_s]
        simp only []
        rw [wrap_i _ (by omega) (by omega), wrap_i _ (by omega) (by omega), ht]
        congr 3
        omega
      · left
        refine ⟨(((N + Rs.tot (ll.take i) : Nat) : Int), ll), ⟨rfl, fun h3 => by simp only at h3; omega⟩, fun rec => ?_⟩
        simp only [f46.s0, f46.s0t]
        rw [decide_eq_true (show (i : Int) < ((N : Nat) : Int) by omega), cond_t, decide_eq_false h2, cond_f]
    · have hiN : i = N := by omega
      subst hiN
      left
      refine ⟨(((i + Rs.tot (ll.take i) : Nat) : Int), ll), ⟨rfl, fun _ => ?_⟩, fun rec => ?_⟩
      · simp only []
        rw [List.take_of_length_le (by omega)]
      · simp only [f46.s0, f46.s0t]
        rw [decide_eq_false (show ¬ (i : Int) < ((i : Nat) : Int) by omega), cond_f]) N _ ⟨0, Nat.zero_le _, rfl, by simp [Rs.tot]; omega, rfl⟩ K hK
  refine ⟨y.1, ?_, hy.2⟩
  simp only [f46.F, f46.T]
  rw [show ((N : Nat) : Int) = ((N + Rs.tot (ll.take 0) : Nat) : Int) by simp [Rs.tot]]
  rw [show iter (f46.s0 K) K (N, ((N + Rs.tot (ll.take 0) : Nat) : Int), 0, ll) = _ from hI, bind_s, ← hy.1]
end Go.Proofs

namespace Go.Proofs
open Go.VM
end Go.Proofs

namespace Go.Proofs
open Go.VM
end Go.Proofs

namespace Go.Proofs
open Go.VM
end Go.Proofs

namespace Go.Proofs
open Go.VM
end Go.Proofs

namespace Go.Proofs
open Go.VM
end Go.Proofs

namespace Go.Proofs
open Go.VM
end Go.Proofs

namespace Go.Proofs
open Go.VM
end Go.Proofs

namespace Go.Proofs
open Go.VM
end Go.Proofs

namespace Go.Proofs
open Go.VM
end Go.Proofs

namespace Go.Proofs
open Go.VM
end Go.Proofs

namespace Go.Proofs
open Go.VM
end Go.Proofs
