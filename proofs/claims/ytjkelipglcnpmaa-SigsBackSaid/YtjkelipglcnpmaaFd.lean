/- Go functions: for each a Lean function with the same answers, and the proof that the call comes to them, with no condition. -/
import Derived.Test.YtjkelipglcnpmaaFl
namespace Go.Proofs
open Go.VM
noncomputable def f95.c : Code := bodyOf Try.f95
def f95.lp (_ : Nat) : Nat → Option (Hint × Summ) := fun _ => none
noncomputable def f95.tab (_K : Nat) : List (Nat × Entry) := []
theorem f95.tabOK (K : Nat) : SpecOK Try.prog (tabSp (f95.tab K)) := tab_ok ( tab_nil)
theorem f95.loops (K : Nat) : LoopsOK Try.prog 2 0 (f95.lp K) f95.c := loops_ok (by
  have h : loopsIn (f95.lp K) f95.c = [] := by kernel_rfl
  rw [h]; simp)
def f95.T (_K : Nat)  : Option (List Int) :=
  some ([0, 0, 0, 0])
def f95.F (K : Nat) (_x : Unit) : Option (List Int) := f95.T K
def f95.av (_x : Unit) : List VV := []
def f95.bl (_x : Unit) : List (Nat × Blk) := []
def f95.inA : VS → Option (Unit)
  | ⟨[], [], 0⟩ => some ()
  | _ => none
def f95.o0 (y : List Int) : VS := ⟨[(0, .agg [.ints .u64 4 y])], [], 0⟩
def f95.des : ∀ α : Type, (List Int) → (VS → Option α) → Option α := (dv1 f95.o0)
def f95.out : List Int → VS := f95.o0
def f95.inR : VS → Option (List Int)
  | ⟨[(0, .agg [.ints .u64 4 y])], [], 0⟩ => some y
  | _ => none
noncomputable def f95.E (K : Nat) : Entry := genE 0 f95.inA (f95.F K) f95.des
theorem f95.eq (K : Nat) (x : Unit) : f95.F K x = xrun (getA tys) (tabSp (f95.tab K)) Try.f95.ntmps 0 (f95.lp K) 400 f95.c ⟨initL 0 (f95.av x), f95.bl x, 0⟩ (contF (getA tys) 0 Try.f95.results.toList f95.inR) := by kernel_rfl
theorem f95.ok (K : Nat) : EntryOK Try.prog 95 (f95.E K) :=
  gen_ok mix tys_ok (f95.tabOK K) Try.func95 (by kernel_rfl : Try.f95.body = some f95.c) (by kernel_rfl) (f95.loops K) (av := f95.av) (bl := f95.bl) (out := f95.out) (fuel := 400)
    (by intro s x h; unfold f95.inA at h; split at h <;> simp at h; rfl) (fun _ => Nat.le_of_ble_eq_true rfl)
    (by intro s y h; unfold f95.inR at h; split at h <;> simp at h <;> subst h <;> rfl) (fun _ _ _ => rfl) (f95.eq K)
end Go.Proofs

namespace Go.Proofs
open Go.VM
noncomputable def f101.c : Code := bodyOf Try.f101
def f101.lp (_ : Nat) : Nat → Option (Hint × Summ) := fun _ => none
noncomputable def f101.tab (K : Nat) : List (Nat × Entry) := [(32, (f32.E K)), (34, (f34.E K)), (44, (f44.E K))]
theorem f101.tabOK (K : Nat) : SpecOK Try.prog (tabSp (f101.tab K)) := tab_ok ((tab_cons (f32.ok K) (tab_cons (f34.ok K) (tab_cons (f44.ok K) tab_nil))))
theorem f101.loops (K : Nat) : LoopsOK Try.prog 30 0 (f101.lp K) f101.c := loops_ok (by
  have h : loopsIn (f101.lp K) f101.c = [] := by kernel_rfl
  rw [h]; simp)
def f101.T (K : Nat) (a0 : List Int) (a1 : List Int) (a2 : List Int) : Option (List Int) :=
  (f32.F K (a0, a1)).bind fun y1 =>
  bif (decide (y1.2 > 0)) then
    (f34.F K (y1.1, a2)).bind fun y3 =>
    some y3.1
  else
    (f44.F K (y1.1, a2)).bind fun y4 =>
    bif (decide (y4 ≥ 0)) then
      (f34.F K (y1.1, a2)).bind fun y6 =>
      some y6.1
    else
      some y1.1
def f101.F (K : Nat) (x : List Int × List Int × List Int) : Option (List Int) := f101.T K x.1 x.2.1 x.2.2
def f101.av (x : List Int × List Int × List Int) : List VV := [.agg [.ints .u64 4 x.1], .agg [.ints .u64 4 x.2.1], .agg [.ints .u64 4 x.2.2]]
def f101.bl (_x : List Int × List Int × List Int) : List (Nat × Blk) := []
def f101.inA : VS → Option (List Int × List Int × List Int)
  | ⟨[(0, .agg [.ints .u64 4 a0]), (1, .agg [.ints .u64 4 a1]), (2, .agg [.ints .u64 4 a2])], [], 0⟩ => some (a0, a1, a2)
  | _ => none
def f101.o0 (y : List Int) : VS := ⟨[(0, .agg [.ints .u64 4 y])], [], 0⟩
def f101.des : ∀ α : Type, (List Int) → (VS → Option α) → Option α := (dv1 f101.o0)
def f101.out : List Int → VS := f101.o0
def f101.inR : VS → Option (List Int)
  | ⟨[(0, .agg [.ints .u64 4 y])], [], 0⟩ => some y
  | _ => none
noncomputable def f101.E (K : Nat) : Entry := genE 0 f101.inA (f101.F K) f101.des
theorem f101.eq (K : Nat) (x : List Int × List Int × List Int) : f101.F K x = xrun (getA tys) (tabSp (f101.tab K)) Try.f101.ntmps 0 (f101.lp K) 400 f101.c ⟨initL 0 (f101.av x), f101.bl x, 0⟩ (contF (getA tys) 0 Try.f101.results.toList f101.inR) := by kernel_rfl
theorem f101.ok (K : Nat) : EntryOK Try.prog 101 (f101.E K) :=
  gen_ok mix tys_ok (f101.tabOK K) Try.func101 (by kernel_rfl : Try.f101.body = some f101.c) (by kernel_rfl) (f101.loops K) (av := f101.av) (bl := f101.bl) (out := f101.out) (fuel := 400)
    (by intro s x h; unfold f101.inA at h; split at h <;> simp at h; subst h; rfl) (fun _ => Nat.le_of_ble_eq_true rfl)
    (by intro s y h; unfold f101.inR at h; split at h <;> simp at h <;> subst h <;> rfl) (fun _ _ _ => rfl) (f101.eq K)
end Go.Proofs

namespace Go.Proofs
open Go.VM
end Go.Proofs

namespace Go.Proofs
open Go.VM
noncomputable def f52.c : Code := bodyOf Try.f52
def f52.s0t (K : Nat) (rec : Int × List Int × List Int × List Int → Option (List Int × List Int)) (t7 : Int) (b0 : List Int) (b1 : List Int) (b2 : List Int) : Option (List Int × List Int) :=
  bif (decide (t7 ≥ 0)) then
    (f44.F K (b1, b2)).bind fun y19 =>
    bif (decide (y19 ≥ 0)) then
      (f34.F K (b1, b2)).bind fun y21 =>
      let v22 := IntKind.wrap .i64 (Int.tdiv t7 64)
      bif decide (0 ≤ v22 ∧ v22 < 4) then
        let v25 := Int.tmod t7 64
        bif decide (0 ≤ v25) then
          bif decide (0 ≤ v22 ∧ v22 < 4) then
            (f38.F K (b2, (-1))).bind fun y31 =>
            rec ((IntKind.wrap .i64 (t7 - 1)), (setD b0 (Int.toNat v22) (bits .or .u64 (List.getD b0 (Int.toNat v22) 0) (shiftI .shl .u64 1 v25))), y21.1, y31)
          else
            none
        else
          none
      else
        none
    else
      (f38.F K (b2, (-1))).bind fun y33 =>
      rec ((IntKind.wrap .i64 (t7 - 1)), b0, b1, y33)
  else
    some (b0, b1)
def f52.s0 (K : Nat) (rec : Int × List Int × List Int × List Int → Option (List Int × List Int)) (x : Int × List Int × List Int × List Int) : Option (List Int × List Int) := f52.s0t K rec x.1 x.2.1 x.2.2.1 x.2.2.2
noncomputable def f52.s0.b : Code := (findLoop 0 f52.c).getD .skip
def f52.s0.h : Hint := { lv := [4, 5, 7, 8] }
def f52.s0.ho : Hint := { lv := [4, 5] }
def f52.s0.shp (x : Int × List Int × List Int × List Int) : VS := ⟨[(4, .ptr 0 0), (5, .ptr 1 0), (7, .int .i64 x.1), (8, .ptr 2 0)], [(0, ([.ints .u64 4 x.2.1], 24, .norm)), (1, ([.ints .u64 4 x.2.2.1], 24, .norm)), (2, ([.ints .u64 4 x.2.2.2], 24, .norm))], 3⟩
def f52.s0.inX : VS → Option (Int × List Int × List Int × List Int)
  | ⟨[(4, .ptr 0 0), (5, .ptr 1 0), (7, .int .i64 t7), (8, .ptr 2 0)], [(0, ([.ints .u64 4 b0], 24, .norm)), (1, ([.ints .u64 4 b1], 24, .norm)), (2, ([.ints .u64 4 b2], 24, .norm))], 3⟩ => some (t7, b0, b1, b2)
  | _ => none
def f52.s0.o0 (y : List Int × List Int) : VS := ⟨[(4, .ptr 0 0), (5, .ptr 1 0)], [(0, ([.ints .u64 4 y.1], 24, .norm)), (1, ([.ints .u64 4 y.2], 24, .norm))], 2⟩
def f52.s0.des : ∀ α : Type, (List Int × List Int) → (Ex → VS → Option α) → Option α := (des1 (.exit 0) f52.s0.o0)
def f52.s0.out : List Int × List Int → Ex × VS := (fun y => (.exit 0, f52.s0.o0 y))
theorem f52.s0.desOK : ∀ α y (k : Ex → VS → Option α), f52.s0.des α y k = k (f52.s0.out y).1 (f52.s0.out y).2 := (fun _ _ _ => rfl)
def f52.s0.inY : Ex → VS → Option (List Int × List Int)
  | .exit 0, ⟨[(4, .ptr 0 0), (5, .ptr 1 0)], [(0, ([.ints .u64 4 b0], 24, .norm)), (1, ([.ints .u64 4 b1], 24, .norm))], 2⟩ => some (b0, b1)
  | _, _ => none
def f52.lp (K : Nat) : Nat → Option (Hint × Summ) := tabLp [(0, f52.s0.h, summOf (iter (f52.s0 K) K) f52.s0.inX f52.s0.des)]
noncomputable def f52.tab (K : Nat) : List (Nat × Entry) := [(95, (f95.E K)), (42, (f42.E K)), (46, (f46.E K)), (38, (f38.E K)), (44, (f44.E K)), (34, (f34.E K))]
theorem f52.tabOK (K : Nat) : SpecOK Try.prog (tabSp (f52.tab K)) := tab_ok ((tab_cons (f95.ok K) (tab_cons (f42.ok K) (tab_cons (f46.ok K) (tab_cons (f38.ok K) (tab_cons (f44.ok K) (tab_cons (f34.ok K) tab_nil)))))))
theorem f52.s0.eq (K : Nat) (rec : Int × List Int × List Int × List Int → Option (List Int × List Int)) (x : Int × List Int × List Int × List Int) : f52.s0 K rec x = roundL (getA tys) (tabSp (f52.tab K)) 70 0 (f52.lp K) 400 f52.s0.b f52.s0.h f52.s0.ho f52.s0.shp f52.s0.inX f52.s0.inY rec x := by kernel_rfl
theorem f52.s0.lok (K : Nat) : LoopsOK Try.prog 70 0 (f52.lp K) f52.s0.b := loops_ok (by
  have h : loopsIn (f52.lp K) f52.s0.b = [] := by kernel_rfl
  rw [h]; simp)
theorem f52.s0.ok (K : Nat) : SummOK Try.prog 70 0 (summOf (iter (f52.s0 K) K) f52.s0.inX f52.s0.des) f52.s0.b :=
  loop_ok mix tys_ok (f52.tabOK K) (h := f52.s0.h) (ho := f52.s0.ho) (shp := f52.s0.shp) (inX := f52.s0.inX) (des := f52.s0.des) (out := f52.s0.out) (inY := f52.s0.inY) (fuel := 400)
    (by intro st x h; unfold f52.s0.inX at h; split at h <;> simp at h; subst h; rfl)
    (by intro e st y h; unfold f52.s0.inY at h; split at h <;> simp at h <;> subst h <;> rfl)
    f52.s0.desOK (f52.s0.lok K) (f52.s0 K) (f52.s0.eq K) K
theorem f52.loops (K : Nat) : LoopsOK Try.prog 70 0 (f52.lp K) f52.c := loops_ok (by
  have h : loopsIn (f52.lp K) f52.c = [(0, f52.s0.b)] := by kernel_rfl
  rw [h]
  intro p hp
  simp only [List.mem_cons, List.not_mem_nil, or_false] at hp
  rcases hp with rfl
  · exact ⟨_, rfl, (f52.s0.ok K)⟩)
def f52.T (K : Nat) (a0 : List Int) (a1 : List Int) : Option (List Int × List Int × Int) :=
  (f95.F K ()).bind fun y1 =>
  bif (eqL 4 a1 y1 && true) then
    some ([0, 0, 0, 0], [0, 0, 0, 0], 1)
  else
    (f42.F K a0).bind fun y3 =>
    (f42.F K a1).bind fun y4 =>
    let v5 := IntKind.wrap .i64 (y3 - y4)
    (f42.F K a0).bind fun y6 =>
    bif (decide (y6 ≤ 64)) then
      bif (decide (v5 ≥ 0)) then
        let v10 := List.getD a1 0 0
        bif decide (v10 ≠ 0) then
          (f46.F K (IntKind.wrap .u64 (Int.tdiv (List.getD a0 0 0) v10))).bind fun y12 =>
          let v14 := List.getD a1 0 0
          bif decide (v14 ≠ 0) then
            (f46.F K (Int.tmod (List.getD a0 0 0) v14)).bind fun y16 =>
            some (y12, y16, 0)
          else
            none
        else
          none
      else
        (f38.F K (a1, v5)).bind fun y17 =>
        (iter (f52.s0 K) K (v5, [0, 0, 0, 0], a0, y17)).bind fun y34 =>
        some (y34.1, y34.2, 0)
    else
      (f38.F K (a1, v5)).bind fun y35 =>
      (iter (f52.s0 K) K (v5, [0, 0, 0, 0], a0, y35)).bind fun y36 =>
      some (y36.1, y36.2, 0)
def f52.F (K : Nat) (x : List Int × List Int) : Option (List Int × List Int × Int) := f52.T K x.1 x.2
def f52.av (x : List Int × List Int) : List VV := [.agg [.ints .u64 4 x.1], .agg [.ints .u64 4 x.2]]
def f52.bl (_x : List Int × List Int) : List (Nat × Blk) := []
def f52.inA : VS → Option (List Int × List Int)
  | ⟨[(0, .agg [.ints .u64 4 a0]), (1, .agg [.ints .u64 4 a1])], [], 0⟩ => some (a0, a1)
  | _ => none
def f52.o0 (y : List Int × List Int × Int) : VS := ⟨[(0, .tup [.agg [.ints .u64 4 y.1], .agg [.ints .u64 4 y.2.1], .int .i64 y.2.2])], [], 0⟩
def f52.des : ∀ α : Type, (List Int × List Int × Int) → (VS → Option α) → Option α := (dv1 f52.o0)
def f52.out : List Int × List Int × Int → VS := f52.o0
def f52.inR : VS → Option (List Int × List Int × Int)
  | ⟨[(0, .tup [.agg [.ints .u64 4 y_0], .agg [.ints .u64 4 y_1], .int .i64 y_2])], [], 0⟩ => some (y_0, y_1, y_2)
  | _ => none
noncomputable def f52.E (K : Nat) : Entry := genE 0 f52.inA (f52.F K) f52.des
theorem f52.eq (K : Nat) (x : List Int × List Int) : f52.F K x = xrun (getA tys) (tabSp (f52.tab K)) Try.f52.ntmps 0 (f52.lp K) 400 f52.c ⟨initL 0 (f52.av x), f52.bl x, 0⟩ (contF (getA tys) 0 Try.f52.results.toList f52.inR) := by kernel_rfl
theorem f52.ok (K : Nat) : EntryOK Try.prog 52 (f52.E K) :=
  gen_ok mix tys_ok (f52.tabOK K) Try.func52 (by kernel_rfl : Try.f52.body = some f52.c) (by kernel_rfl) (f52.loops K) (av := f52.av) (bl := f52.bl) (out := f52.out) (fuel := 400)
    (by intro s x h; unfold f52.inA at h; split at h <;> simp at h; subst h; rfl) (fun _ => Nat.le_of_ble_eq_true rfl)
    (by intro s y h; unfold f52.inR at h; split at h <;> simp at h <;> subst h <;> rfl) (fun _ _ _ => rfl) (f52.eq K)
end Go.Proofs

namespace Go.Proofs
open Go.VM
end Go.Proofs

namespace Go.Proofs
open Go.VM
noncomputable def f130.c : Code := bodyOf Try.f130
def f130.k0 : ByteArray := ByteArray.mk #[0, 1, 2, 2, 3, 3, 3, 3, 4, 4, 4, 4, 4, 4, 4, 4, 5, 5, 5, 5, 5, 5, 5, 5, 5, 5, 5, 5, 5, 5, 5, 5, 6, 6, 6, 6, 6, 6, 6, 6, 6, 6, 6, 6, 6, 6, 6, 6, 6, 6, 6, 6, 6, 6, 6, 6, 6, 6, 6, 6, 6, 6, 6, 6, 7, 7, 7, 7, 7, 7, 7, 7, 7, 7, 7, 7, 7, 7, 7, 7, 7, 7, 7, 7, 7, 7, 7, 7, 7, 7, 7, 7, 7, 7, 7, 7, 7, 7, 7, 7, 7, 7, 7, 7, 7, 7, 7, 7, 7, 7, 7, 7, 7, 7, 7, 7, 7, 7, 7, 7, 7, 7, 7, 7, 7, 7, 7, 7, 8, 8, 8, 8, 8, 8, 8, 8, 8, 8, 8, 8, 8, 8, 8, 8, 8, 8, 8, 8, 8, 8, 8, 8, 8, 8, 8, 8, 8, 8, 8, 8, 8, 8, 8, 8, 8, 8, 8, 8, 8, 8, 8, 8, 8, 8, 8, 8, 8, 8, 8, 8, 8, 8, 8, 8, 8, 8, 8, 8, 8, 8, 8, 8, 8, 8, 8, 8, 8, 8, 8, 8, 8, 8, 8, 8, 8, 8, 8, 8, 8, 8, 8, 8, 8, 8, 8, 8, 8, 8, 8, 8, 8, 8, 8, 8, 8, 8, 8, 8, 8, 8, 8, 8, 8, 8, 8, 8, 8, 8, 8, 8, 8, 8, 8, 8, 8, 8, 8, 8, 8, 8, 8, 8, 8, 8, 8, 8]
def f130.lp (_ : Nat) : Nat → Option (Hint × Summ) := fun _ => none
noncomputable def f130.tab (_K : Nat) : List (Nat × Entry) := []
theorem f130.tabOK (K : Nat) : SpecOK Try.prog (tabSp (f130.tab K)) := tab_ok ( tab_nil)
theorem f130.loops (K : Nat) : LoopsOK Try.prog 25 0 (f130.lp K) f130.c := loops_ok (by
  have h : loopsIn (f130.lp K) f130.c = [] := by kernel_rfl
  rw [h]; simp)
def f130.T (_K : Nat) (a0 : Int) : Option (Int) :=
  bif (decide (a0 ≥ 4294967296)) then
    let v2 := Int.fdiv a0 (2 ^ 32)
    bif (decide (v2 ≥ 65536)) then
      let v4 := Int.fdiv v2 (2 ^ 16)
      bif (decide (v4 ≥ 256)) then
        let v7 := IntKind.wrap .u8 (Int.fdiv v4 (2 ^ 8))
        bif decide (0 ≤ v7 ∧ v7 < ((ByteArray.size f130.k0 : Nat) : Int)) then
          some (IntKind.wrap .i64 (56 + (IntKind.wrap .i64 (strAt f130.k0 (Int.toNat v7)))))
        else
          none
      else
        let v11 := IntKind.wrap .u8 v4
        bif decide (0 ≤ v11 ∧ v11 < ((ByteArray.size f130.k0 : Nat) : Int)) then
          some (IntKind.wrap .i64 (48 + (IntKind.wrap .i64 (strAt f130.k0 (Int.toNat v11)))))
        else
          none
    else
      bif (decide (v2 ≥ 256)) then
        let v17 := IntKind.wrap .u8 (Int.fdiv v2 (2 ^ 8))
        bif decide (0 ≤ v17 ∧ v17 < ((ByteArray.size f130.k0 : Nat) : Int)) then
          some (IntKind.wrap .i64 (40 + (IntKind.wrap .i64 (strAt f130.k0 (Int.toNat v17)))))
        else
          none
      else
        let v21 := IntKind.wrap .u8 v2
        bif decide (0 ≤ v21 ∧ v21 < ((ByteArray.size f130.k0 : Nat) : Int)) then
          some (IntKind.wrap .i64 (32 + (IntKind.wrap .i64 (strAt f130.k0 (Int.toNat v21)))))
        else
          none
  else
    bif (decide (a0 ≥ 65536)) then
      let v26 := Int.fdiv a0 (2 ^ 16)
      bif (decide (v26 ≥ 256)) then
        let v29 := IntKind.wrap .u8 (Int.fdiv v26 (2 ^ 8))
        bif decide (0 ≤ v29 ∧ v29 < ((ByteArray.size f130.k0 : Nat) : Int)) then
          some (IntKind.wrap .i64 (24 + (IntKind.wrap .i64 (strAt f130.k0 (Int.toNat v29)))))
        else
          none
      else
        let v33 := IntKind.wrap .u8 v26
        bif decide (0 ≤ v33 ∧ v33 < ((ByteArray.size f130.k0 : Nat) : Int)) then
          some (IntKind.wrap .i64 (16 + (IntKind.wrap .i64 (strAt f130.k0 (Int.toNat v33)))))
        else
          none
    else
      bif (decide (a0 ≥ 256)) then
        let v39 := IntKind.wrap .u8 (Int.fdiv a0 (2 ^ 8))
        bif decide (0 ≤ v39 ∧ v39 < ((ByteArray.size f130.k0 : Nat) : Int)) then
          some (IntKind.wrap .i64 (8 + (IntKind.wrap .i64 (strAt f130.k0 (Int.toNat v39)))))
        else
          none
      else
        let v43 := IntKind.wrap .u8 a0
        bif decide (0 ≤ v43 ∧ v43 < ((ByteArray.size f130.k0 : Nat) : Int)) then
          some (IntKind.wrap .i64 (0 + (IntKind.wrap .i64 (strAt f130.k0 (Int.toNat v43)))))
        else
          none
def f130.F (K : Nat) (x : Int) : Option (Int) := f130.T K x
def f130.av (x : Int) : List VV := [.int .u64 x]
def f130.bl (_x : Int) : List (Nat × Blk) := []
def f130.inA : VS → Option (Int)
  | ⟨[(0, .int .u64 a0)], [], 0⟩ => some a0
  | _ => none
def f130.o0 (y : Int) : VS := ⟨[(0, .int .i64 y)], [], 0⟩
def f130.des : ∀ α : Type, Int → (VS → Option α) → Option α := (dv1 f130.o0)
def f130.out : Int → VS := f130.o0
def f130.inR : VS → Option (Int)
  | ⟨[(0, .int .i64 y)], [], 0⟩ => some y
  | _ => none
noncomputable def f130.E (K : Nat) : Entry := genE 0 f130.inA (f130.F K) f130.des
theorem f130.eq (K : Nat) (x : Int) : f130.F K x = xrun (getA tys) (tabSp (f130.tab K)) Try.f130.ntmps 0 (f130.lp K) 400 f130.c ⟨initL 0 (f130.av x), f130.bl x, 0⟩ (contF (getA tys) 0 Try.f130.results.toList f130.inR) := by kernel_rfl
theorem f130.ok (K : Nat) : EntryOK Try.prog 130 (f130.E K) :=
  gen_ok mix tys_ok (f130.tabOK K) Try.func130 (by kernel_rfl : Try.f130.body = some f130.c) (by kernel_rfl) (f130.loops K) (av := f130.av) (bl := f130.bl) (out := f130.out) (fuel := 400)
    (by intro s x h; unfold f130.inA at h; split at h <;> simp at h; subst h; rfl) (fun _ => Nat.le_of_ble_eq_true rfl)
    (by intro s y h; unfold f130.inR at h; split at h <;> simp at h <;> subst h <;> rfl) (fun _ _ _ => rfl) (f130.eq K)
end Go.Proofs

namespace Go.Proofs
open Go.VM
noncomputable def f122.c : Code := bodyOf Try.f122
def f122.lp (_ : Nat) : Nat → Option (Hint × Summ) := fun _ => none
noncomputable def f122.tab (K : Nat) : List (Nat × Entry) := [(130, (f130.E K))]
theorem f122.tabOK (K : Nat) : SpecOK Try.prog (tabSp (f122.tab K)) := tab_ok ((tab_cons (f130.ok K) tab_nil))
theorem f122.loops (K : Nat) : LoopsOK Try.prog 6 0 (f122.lp K) f122.c := loops_ok (by
  have h : loopsIn (f122.lp K) f122.c = [] := by kernel_rfl
  rw [h]; simp)
def f122.T (K : Nat) (a0 : Int) : Option (Int) :=
  (f130.F K a0).bind fun y1 =>
  some (IntKind.wrap .i64 (64 - y1))
def f122.F (K : Nat) (x : Int) : Option (Int) := f122.T K x
def f122.av (x : Int) : List VV := [.int .u64 x]
def f122.bl (_x : Int) : List (Nat × Blk) := []
def f122.inA : VS → Option (Int)
  | ⟨[(0, .int .u64 a0)], [], 0⟩ => some a0
  | _ => none
def f122.o0 (y : Int) : VS := ⟨[(0, .int .i64 y)], [], 0⟩
def f122.des : ∀ α : Type, Int → (VS → Option α) → Option α := (dv1 f122.o0)
def f122.out : Int → VS := f122.o0
def f122.inR : VS → Option (Int)
  | ⟨[(0, .int .i64 y)], [], 0⟩ => some y
  | _ => none
noncomputable def f122.E (K : Nat) : Entry := genE 0 f122.inA (f122.F K) f122.des
theorem f122.eq (K : Nat) (x : Int) : f122.F K x = xrun (getA tys) (tabSp (f122.tab K)) Try.f122.ntmps 0 (f122.lp K) 400 f122.c ⟨initL 0 (f122.av x), f122.bl x, 0⟩ (contF (getA tys) 0 Try.f122.results.toList f122.inR) := by kernel_rfl
theorem f122.ok (K : Nat) : EntryOK Try.prog 122 (f122.E K) :=
  gen_ok mix tys_ok (f122.tabOK K) Try.func122 (by kernel_rfl : Try.f122.body = some f122.c) (by kernel_rfl) (f122.loops K) (av := f122.av) (bl := f122.bl) (out := f122.out) (fuel := 400)
    (by intro s x h; unfold f122.inA at h; split at h <;> simp at h; subst h; rfl) (fun _ => Nat.le_of_ble_eq_true rfl)
    (by intro s y h; unfold f122.inR at h; split at h <;> simp at h <;> subst h <;> rfl) (fun _ _ _ => rfl) (f122.eq K)
end Go.Proofs

namespace Go.Proofs
open Go.VM
noncomputable def f100.c : Code := bodyOf Try.f100
def f100.s0t (_K : Nat) (rec : Int × Int × Int × Int × Int × Int × Int × Int × Int → Option (Int × Int × Int × Int × Int × Int × Int × Int)) (t2 : Int) (t8 : Int) (t9 : Int) (t10 : Int) (t11 : Int) (t13 : Int) (t14 : Int) (t15 : Int) (t16 : Int) : Option (Int × Int × Int × Int × Int × Int × Int × Int) :=
  bif (decide (t15 ≥ 4294967296)) then
    let v20 := IntKind.wrap .u64 (t15 - 1)
    let v21 := IntKind.wrap .u64 (t16 + t9)
    bif (decide (v21 ≥ 4294967296)) then
      some (t2, t8, t9, t10, t11, t13, t14, v20)
    else
      rec (t2, t8, t9, t10, t11, t13, t14, v20, v21)
  else
    bif (decide ((IntKind.wrap .u64 (t15 * t10)) > (IntKind.wrap .u64 ((IntKind.wrap .u64 (4294967296 * t16)) + t13)))) then
      let v27 := IntKind.wrap .u64 (t15 - 1)
      let v28 := IntKind.wrap .u64 (t16 + t9)
      bif (decide (v28 ≥ 4294967296)) then
        some (t2, t8, t9, t10, t11, t13, t14, v27)
      else
        rec (t2, t8, t9, t10, t11, t13, t14, v27, v28)
    else
      some (t2, t8, t9, t10, t11, t13, t14, t15)
def f100.s0 (K : Nat) (rec : Int × Int × Int × Int × Int × Int × Int × Int × Int → Option (Int × Int × Int × Int × Int × Int × Int × Int)) (x : Int × Int × Int × Int × Int × Int × Int × Int × Int) : Option (Int × Int × Int × Int × Int × Int × Int × Int) := f100.s0t K rec x.1 x.2.1 x.2.2.1 x.2.2.2.1 x.2.2.2.2.1 x.2.2.2.2.2.1 x.2.2.2.2.2.2.1 x.2.2.2.2.2.2.2.1 x.2.2.2.2.2.2.2.2
noncomputable def f100.s0.b : Code := (findLoop 0 f100.c).getD .skip
def f100.s0.h : Hint := { lv := [2, 8, 9, 10, 11, 13, 14, 15, 16] }
def f100.s0.ho : Hint := { lv := [2, 8, 9, 10, 11, 13, 14, 15] }
def f100.s0.shp (x : Int × Int × Int × Int × Int × Int × Int × Int × Int) : VS := ⟨[(2, .int .u64 x.1), (8, .int .u64 x.2.1), (9, .int .u64 x.2.2.1), (10, .int .u64 x.2.2.2.1), (11, .int .u64 x.2.2.2.2.1), (13, .int .u64 x.2.2.2.2.2.1), (14, .int .u64 x.2.2.2.2.2.2.1), (15, .int .u64 x.2.2.2.2.2.2.2.1), (16, .int .u64 x.2.2.2.2.2.2.2.2)], [], 0⟩
def f100.s0.inX : VS → Option (Int × Int × Int × Int × Int × Int × Int × Int × Int)
  | ⟨[(2, .int .u64 t2), (8, .int .u64 t8), (9, .int .u64 t9), (10, .int .u64 t10), (11, .int .u64 t11), (13, .int .u64 t13), (14, .int .u64 t14), (15, .int .u64 t15), (16, .int .u64 t16)], [], 0⟩ => some (t2, t8, t9, t10, t11, t13, t14, t15, t16)
  | _ => none
def f100.s0.o0 (y : Int × Int × Int × Int × Int × Int × Int × Int) : VS := ⟨[(2, .int .u64 y.1), (8, .int .u64 y.2.1), (9, .int .u64 y.2.2.1), (10, .int .u64 y.2.2.2.1), (11, .int .u64 y.2.2.2.2.1), (13, .int .u64 y.2.2.2.2.2.1), (14, .int .u64 y.2.2.2.2.2.2.1), (15, .int .u64 y.2.2.2.2.2.2.2)], [], 0⟩
def f100.s0.des : ∀ α : Type, (Int × Int × Int × Int × Int × Int × Int × Int) → (Ex → VS → Option α) → Option α := (des1 (.exit 0) f100.s0.o0)
def f100.s0.out : Int × Int × Int × Int × Int × Int × Int × Int → Ex × VS := (fun y => (.exit 0, f100.s0.o0 y))
theorem f100.s0.desOK : ∀ α y (k : Ex → VS → Option α), f100.s0.des α y k = k (f100.s0.out y).1 (f100.s0.out y).2 := (fun _ _ _ => rfl)
def f100.s0.inY : Ex → VS → Option (Int × Int × Int × Int × Int × Int × Int × Int)
  | .exit 0, ⟨[(2, .int .u64 t2), (8, .int .u64 t8), (9, .int .u64 t9), (10, .int .u64 t10), (11, .int .u64 t11), (13, .int .u64 t13), (14, .int .u64 t14), (15, .int .u64 t15)], [], 0⟩ => some (t2, t8, t9, t10, t11, t13, t14, t15)
  | _, _ => none
def f100.s2t (_K : Nat) (rec : Int × Int × Int × Int × Int × Int × Int × Int × Int → Option (Int × Int × Int × Int × Int × Int)) (t2 : Int) (t8 : Int) (t9 : Int) (t10 : Int) (t14 : Int) (t15 : Int) (t16 : Int) (t17 : Int) (t18 : Int) : Option (Int × Int × Int × Int × Int × Int) :=
  bif (decide (t18 ≥ 4294967296)) then
    let v42 := IntKind.wrap .u64 (t18 - 1)
    let v43 := IntKind.wrap .u64 (t16 + t9)
    bif (decide (v43 ≥ 4294967296)) then
      some (t2, t8, t14, t15, t17, v42)
    else
      rec (t2, t8, t9, t10, t14, t15, v43, t17, v42)
  else
    bif (decide ((IntKind.wrap .u64 (t18 * t10)) > (IntKind.wrap .u64 ((IntKind.wrap .u64 (4294967296 * t16)) + t14)))) then
      let v49 := IntKind.wrap .u64 (t18 - 1)
      let v50 := IntKind.wrap .u64 (t16 + t9)
      bif (decide (v50 ≥ 4294967296)) then
        some (t2, t8, t14, t15, t17, v49)
      else
        rec (t2, t8, t9, t10, t14, t15, v50, t17, v49)
    else
      some (t2, t8, t14, t15, t17, t18)
def f100.s2 (K : Nat) (rec : Int × Int × Int × Int × Int × Int × Int × Int × Int → Option (Int × Int × Int × Int × Int × Int)) (x : Int × Int × Int × Int × Int × Int × Int × Int × Int) : Option (Int × Int × Int × Int × Int × Int) := f100.s2t K rec x.1 x.2.1 x.2.2.1 x.2.2.2.1 x.2.2.2.2.1 x.2.2.2.2.2.1 x.2.2.2.2.2.2.1 x.2.2.2.2.2.2.2.1 x.2.2.2.2.2.2.2.2
noncomputable def f100.s2.b : Code := (findLoop 2 f100.c).getD .skip
def f100.s2.h : Hint := { lv := [2, 8, 9, 10, 14, 15, 16, 17, 18] }
def f100.s2.ho : Hint := { lv := [2, 8, 14, 15, 17, 18] }
def f100.s2.shp (x : Int × Int × Int × Int × Int × Int × Int × Int × Int) : VS := ⟨[(2, .int .u64 x.1), (8, .int .u64 x.2.1), (9, .int .u64 x.2.2.1), (10, .int .u64 x.2.2.2.1), (14, .int .u64 x.2.2.2.2.1), (15, .int .u64 x.2.2.2.2.2.1), (16, .int .u64 x.2.2.2.2.2.2.1), (17, .int .u64 x.2.2.2.2.2.2.2.1), (18, .int .u64 x.2.2.2.2.2.2.2.2)], [], 0⟩
def f100.s2.inX : VS → Option (Int × Int × Int × Int × Int × Int × Int × Int × Int)
  | ⟨[(2, .int .u64 t2), (8, .int .u64 t8), (9, .int .u64 t9), (10, .int .u64 t10), (14, .int .u64 t14), (15, .int .u64 t15), (16, .int .u64 t16), (17, .int .u64 t17), (18, .int .u64 t18)], [], 0⟩ => some (t2, t8, t9, t10, t14, t15, t16, t17, t18)
  | _ => none
def f100.s2.o0 (y : Int × Int × Int × Int × Int × Int) : VS := ⟨[(2, .int .u64 y.1), (8, .int .u64 y.2.1), (14, .int .u64 y.2.2.1), (15, .int .u64 y.2.2.2.1), (17, .int .u64 y.2.2.2.2.1), (18, .int .u64 y.2.2.2.2.2)], [], 0⟩
def f100.s2.des : ∀ α : Type, (Int × Int × Int × Int × Int × Int) → (Ex → VS → Option α) → Option α := (des1 (.exit 2) f100.s2.o0)
def f100.s2.out : Int × Int × Int × Int × Int × Int → Ex × VS := (fun y => (.exit 2, f100.s2.o0 y))
theorem f100.s2.desOK : ∀ α y (k : Ex → VS → Option α), f100.s2.des α y k = k (f100.s2.out y).1 (f100.s2.out y).2 := (fun _ _ _ => rfl)
def f100.s2.inY : Ex → VS → Option (Int × Int × Int × Int × Int × Int)
  | .exit 2, ⟨[(2, .int .u64 t2), (8, .int .u64 t8), (14, .int .u64 t14), (15, .int .u64 t15), (17, .int .u64 t17), (18, .int .u64 t18)], [], 0⟩ => some (t2, t8, t14, t15, t17, t18)
  | _, _ => none
def f100.lp (K : Nat) : Nat → Option (Hint × Summ) := tabLp [(0, f100.s0.h, summOf (iter (f100.s0 K) K) f100.s0.inX f100.s0.des), (2, f100.s2.h, summOf (iter (f100.s2 K) K) f100.s2.inX f100.s2.des)]
noncomputable def f100.tab (K : Nat) : List (Nat × Entry) := [(122, (f122.E K))]
theorem f100.tabOK (K : Nat) : SpecOK Try.prog (tabSp (f100.tab K)) := tab_ok ((tab_cons (f122.ok K) tab_nil))
theorem f100.s0.eq (K : Nat) (rec : Int × Int × Int × Int × Int × Int × Int × Int × Int → Option (Int × Int × Int × Int × Int × Int × Int × Int)) (x : Int × Int × Int × Int × Int × Int × Int × Int × Int) : f100.s0 K rec x = roundL (getA tys) (tabSp (f100.tab K)) 135 0 (f100.lp K) 400 f100.s0.b f100.s0.h f100.s0.ho f100.s0.shp f100.s0.inX f100.s0.inY rec x := by kernel_rfl
theorem f100.s0.lok (K : Nat) : LoopsOK Try.prog 135 0 (f100.lp K) f100.s0.b := loops_ok (by
  have h : loopsIn (f100.lp K) f100.s0.b = [] := by kernel_rfl
  rw [h]; simp)
theorem f100.s0.ok (K : Nat) : SummOK Try.prog 135 0 (summOf (iter (f100.s0 K) K) f100.s0.inX f100.s0.des) f100.s0.b :=
  loop_ok mix tys_ok (f100.tabOK K) (h := f100.s0.h) (ho := f100.s0.ho) (shp := f100.s0.shp) (inX := f100.s0.inX) (des := f100.s0.des) (out := f100.s0.out) (inY := f100.s0.inY) (fuel := 400)
    (by intro st x h; unfold f100.s0.inX at h; split at h <;> simp at h; subst h; rfl)
    (by intro e st y h; unfold f100.s0.inY at h; split at h <;> simp at h <;> subst h <;> rfl)
    f100.s0.desOK (f100.s0.lok K) (f100.s0 K) (f100.s0.eq K) K
theorem f100.s2.eq (K : Nat) (rec : Int × Int × Int × Int × Int × Int × Int × Int × Int → Option (Int × Int × Int × Int × Int × Int)) (x : Int × Int × Int × Int × Int × Int × Int × Int × Int) : f100.s2 K rec x = roundL (getA tys) (tabSp (f100.tab K)) 135 0 (f100.lp K) 400 f100.s2.b f100.s2.h f100.s2.ho f100.s2.shp f100.s2.inX f100.s2.inY rec x := by kernel_rfl
theorem f100.s2.lok (K : Nat) : LoopsOK Try.prog 135 0 (f100.lp K) f100.s2.b := loops_ok (by
  have h : loopsIn (f100.lp K) f100.s2.b = [] := by kernel_rfl
  rw [h]; simp)
theorem f100.s2.ok (K : Nat) : SummOK Try.prog 135 0 (summOf (iter (f100.s2 K) K) f100.s2.inX f100.s2.des) f100.s2.b :=
  loop_ok mix tys_ok (f100.tabOK K) (h := f100.s2.h) (ho := f100.s2.ho) (shp := f100.s2.shp) (inX := f100.s2.inX) (des := f100.s2.des) (out := f100.s2.out) (inY := f100.s2.inY) (fuel := 400)
    (by intro st x h; unfold f100.s2.inX at h; split at h <;> simp at h; subst h; rfl)
    (by intro e st y h; unfold f100.s2.inY at h; split at h <;> simp at h <;> subst h <;> rfl)
    f100.s2.desOK (f100.s2.lok K) (f100.s2 K) (f100.s2.eq K) K
theorem f100.loops (K : Nat) : LoopsOK Try.prog 135 0 (f100.lp K) f100.c := loops_ok (by
  have h : loopsIn (f100.lp K) f100.c = [(0, f100.s0.b), (2, f100.s2.b)] := by kernel_rfl
  rw [h]
  intro p hp
  simp only [List.mem_cons, List.not_mem_nil, or_false] at hp
  rcases hp with rfl | rfl
  · exact ⟨_, rfl, (f100.s0.ok K)⟩
  · exact ⟨_, rfl, (f100.s2.ok K)⟩)
def f100.T (K : Nat) (a0 : Int) (a1 : Int) (a2 : Int) : Option (Int × Int) :=
  bif (a2 == 0) then
    none
  else
    bif (decide (a2 ≤ a0)) then
      none
    else
      bif (a0 == 0) then
        bif decide (a2 ≠ 0) then
          bif decide (a2 ≠ 0) then
            some ((IntKind.wrap .u64 (Int.tdiv a1 a2)), (Int.tmod a1 a2))
          else
            none
        else
          none
      else
        (f122.F K a2).bind fun y4 =>
        let v5 := IntKind.wrap .u64 y4
        bif decide (0 ≤ v5) then
          let v6 := shiftI .shl .u64 a2 v5
          let v7 := Int.fdiv v6 (2 ^ 32)
          bif decide (0 ≤ v5) then
            let v10 := IntKind.wrap .u64 (64 - v5)
            bif decide (0 ≤ v10) then
              let v12 := bits .or .u64 (shiftI .shl .u64 a0 v5) (shiftI .shr .u64 a1 v10)
              bif decide (0 ≤ v5) then
                let v13 := shiftI .shl .u64 a1 v5
                bif decide (v7 ≠ 0) then
                  let v16 := IntKind.wrap .u64 (Int.tdiv v12 v7)
                  (iter (f100.s0 K) K (v6, v5, v7, (bits .and .u64 v6 4294967295), v12, (Int.fdiv v13 (2 ^ 32)), (bits .and .u64 v13 4294967295), v16, (IntKind.wrap .u64 (v12 - (IntKind.wrap .u64 (v16 * v7)))))).bind fun y30 =>
                  let v37 := IntKind.wrap .u64 ((IntKind.wrap .u64 ((IntKind.wrap .u64 (y30.2.2.2.2.1 * 4294967296)) + y30.2.2.2.2.2.1)) - (IntKind.wrap .u64 (y30.2.2.2.2.2.2.2 * y30.1)))
                  bif decide (y30.2.2.1 ≠ 0) then
                    let v38 := IntKind.wrap .u64 (Int.tdiv v37 y30.2.2.1)
                    (iter (f100.s2 K) K (y30.1, y30.2.1, y30.2.2.1, y30.2.2.2.1, y30.2.2.2.2.2.2.1, y30.2.2.2.2.2.2.2, (IntKind.wrap .u64 (v37 - (IntKind.wrap .u64 (v38 * y30.2.2.1)))), v37, v38)).bind fun y52 =>
                    bif decide (0 ≤ y52.2.1) then
                      some ((IntKind.wrap .u64 ((IntKind.wrap .u64 (y52.2.2.2.1 * 4294967296)) + y52.2.2.2.2.2)), (shiftI .shr .u64 (IntKind.wrap .u64 ((IntKind.wrap .u64 ((IntKind.wrap .u64 (y52.2.2.2.2.1 * 4294967296)) + y52.2.2.1)) - (IntKind.wrap .u64 (y52.2.2.2.2.2 * y52.1)))) y52.2.1))
                    else
                      none
                  else
                    none
                else
                  none
              else
                none
            else
              none
          else
            none
        else
          none
def f100.F (K : Nat) (x : Int × Int × Int) : Option (Int × Int) := f100.T K x.1 x.2.1 x.2.2
def f100.av (x : Int × Int × Int) : List VV := [.int .u64 x.1, .int .u64 x.2.1, .int .u64 x.2.2]
def f100.bl (_x : Int × Int × Int) : List (Nat × Blk) := []
def f100.inA : VS → Option (Int × Int × Int)
  | ⟨[(0, .int .u64 a0), (1, .int .u64 a1), (2, .int .u64 a2)], [], 0⟩ => some (a0, a1, a2)
  | _ => none
def f100.o0 (y : Int × Int) : VS := ⟨[(0, .tup [.int .u64 y.1, .int .u64 y.2])], [], 0⟩
def f100.des : ∀ α : Type, (Int × Int) → (VS → Option α) → Option α := (dv1 f100.o0)
def f100.out : Int × Int → VS := f100.o0
def f100.inR : VS → Option (Int × Int)
  | ⟨[(0, .tup [.int .u64 y_0, .int .u64 y_1])], [], 0⟩ => some (y_0, y_1)
  | _ => none
noncomputable def f100.E (K : Nat) : Entry := genE 0 f100.inA (f100.F K) f100.des
theorem f100.eq (K : Nat) (x : Int × Int × Int) : f100.F K x = xrun (getA tys) (tabSp (f100.tab K)) Try.f100.ntmps 0 (f100.lp K) 400 f100.c ⟨initL 0 (f100.av x), f100.bl x, 0⟩ (contF (getA tys) 0 Try.f100.results.toList f100.inR) := by kernel_rfl
theorem f100.ok (K : Nat) : EntryOK Try.prog 100 (f100.E K) :=
  gen_ok mix tys_ok (f100.tabOK K) Try.func100 (by kernel_rfl : Try.f100.body = some f100.c) (by kernel_rfl) (f100.loops K) (av := f100.av) (bl := f100.bl) (out := f100.out) (fuel := 400)
    (by intro s x h; unfold f100.inA at h; split at h <;> simp at h; subst h; rfl) (fun _ => Nat.le_of_ble_eq_true rfl)
    (by intro s y h; unfold f100.inR at h; split at h <;> simp at h <;> subst h <;> rfl) (fun _ _ _ => rfl) (f100.eq K)
end Go.Proofs

namespace Go.Proofs
open Go.VM
noncomputable def f54.c : Code := bodyOf Try.f54
def f54.s2t (K : Nat) (rec : Int × Int × Int × Int × List Int × List Int × List Int × List Int → Option (Int × Int × Int × List Int × List Int × List Int)) (t8 : Int) (t28 : Int) (t29 : Int) (t33 : Int) (b0 : List Int) (b1 : List Int) (b2 : List Int) (b3 : List Int) : Option (Int × Int × Int × List Int × List Int × List Int) :=
  bif (decide (t33 < 4)) then
    let v10 := IntKind.wrap .i64 (3 - t33)
    bif decide (0 ≤ v10 ∧ v10 < 4) then
      (f100.F K (t8, (List.getD b2 (Int.toNat v10) 0), (List.getD b0 0 0))).bind fun y14 =>
      rec (y14.2, t28, t29, (IntKind.wrap .i64 (t33 + 1)), b0, b1, b2, b3)
    else
      none
  else
    some (t8, t28, t29, b0, b1, b3)
def f54.s2 (K : Nat) (rec : Int × Int × Int × Int × List Int × List Int × List Int × List Int → Option (Int × Int × Int × List Int × List Int × List Int)) (x : Int × Int × Int × Int × List Int × List Int × List Int × List Int) : Option (Int × Int × Int × List Int × List Int × List Int) := f54.s2t K rec x.1 x.2.1 x.2.2.1 x.2.2.2.1 x.2.2.2.2.1 x.2.2.2.2.2.1 x.2.2.2.2.2.2.1 x.2.2.2.2.2.2.2
noncomputable def f54.s2.b : Code := (findLoop 2 f54.c).getD .skip
def f54.s2.h : Hint := { lv := [5, 6, 8, 10, 27, 28, 29, 33] }
def f54.s2.ho : Hint := { lv := [5, 6, 8, 27, 28, 29] }
def f54.s2.shp (x : Int × Int × Int × Int × List Int × List Int × List Int × List Int) : VS := ⟨[(5, .ptr 0 0), (6, .ptr 1 0), (8, .int .u64 x.1), (10, .ptr 2 0), (27, .sl 3 0 2 2), (28, .int .i64 x.2.1), (29, .int .i64 x.2.2.1), (33, .int .i64 x.2.2.2.1)], [(0, ([.ints .u64 4 x.2.2.2.2.1], 24, .norm)), (1, ([.ints .u64 4 x.2.2.2.2.2.1], 24, .norm)), (2, ([.ints .u64 4 x.2.2.2.2.2.2.1], 24, .norm)), (3, ([.ints .u64 8 x.2.2.2.2.2.2.2], 24, .norm))], 4⟩
def f54.s2.inX : VS → Option (Int × Int × Int × Int × List Int × List Int × List Int × List Int)
  | ⟨[(5, .ptr 0 0), (6, .ptr 1 0), (8, .int .u64 t8), (10, .ptr 2 0), (27, .sl 3 0 2 2), (28, .int .i64 t28), (29, .int .i64 t29), (33, .int .i64 t33)], [(0, ([.ints .u64 4 b0], 24, .norm)), (1, ([.ints .u64 4 b1], 24, .norm)), (2, ([.ints .u64 4 b2], 24, .norm)), (3, ([.ints .u64 8 b3], 24, .norm))], 4⟩ => some (t8, t28, t29, t33, b0, b1, b2, b3)
  | _ => none
def f54.s2.o0 (y : Int × Int × Int × List Int × List Int × List Int) : VS := ⟨[(5, .ptr 0 0), (6, .ptr 1 0), (8, .int .u64 y.1), (27, .sl 2 0 2 2), (28, .int .i64 y.2.1), (29, .int .i64 y.2.2.1)], [(0, ([.ints .u64 4 y.2.2.2.1], 24, .norm)), (1, ([.ints .u64 4 y.2.2.2.2.1], 24, .norm)), (2, ([.ints .u64 8 y.2.2.2.2.2], 24, .norm))], 3⟩
def f54.s2.des : ∀ α : Type, (Int × Int × Int × List Int × List Int × List Int) → (Ex → VS → Option α) → Option α := (des1 (.exit 2) f54.s2.o0)
def f54.s2.out : Int × Int × Int × List Int × List Int × List Int → Ex × VS := (fun y => (.exit 2, f54.s2.o0 y))
theorem f54.s2.desOK : ∀ α y (k : Ex → VS → Option α), f54.s2.des α y k = k (f54.s2.out y).1 (f54.s2.out y).2 := (fun _ _ _ => rfl)
def f54.s2.inY : Ex → VS → Option (Int × Int × Int × List Int × List Int × List Int)
  | .exit 2, ⟨[(5, .ptr 0 0), (6, .ptr 1 0), (8, .int .u64 t8), (27, .sl 2 0 2 2), (28, .int .i64 t28), (29, .int .i64 t29)], [(0, ([.ints .u64 4 b0], 24, .norm)), (1, ([.ints .u64 4 b1], 24, .norm)), (2, ([.ints .u64 8 b2], 24, .norm))], 3⟩ => some (t8, t28, t29, b0, b1, b2)
  | _, _ => none
def f54.s0t (K : Nat) (rec : Int × Int × Int × List Int × List Int × List Int → Option (Int × List Int)) (t8 : Int) (t28 : Int) (t29 : Int) (b0 : List Int) (b1 : List Int) (b2 : List Int) : Option (Int × List Int) :=
  bif (decide (t29 < t28)) then
    bif decide (0 ≤ t29 ∧ t29 < 2) then
      (iter (f54.s2 K) K (t8, t28, t29, 0, b0, b1, (List.take 4 (List.drop ((Int.toNat t29) * 4) b2)), b2)).bind fun y16 =>
      rec (y16.1, y16.2.1, (IntKind.wrap .i64 (y16.2.2.1 + 1)), y16.2.2.2.1, y16.2.2.2.2.1, y16.2.2.2.2.2)
    else
      none
  else
    some (t8, b1)
def f54.s0 (K : Nat) (rec : Int × Int × Int × List Int × List Int × List Int → Option (Int × List Int)) (x : Int × Int × Int × List Int × List Int × List Int) : Option (Int × List Int) := f54.s0t K rec x.1 x.2.1 x.2.2.1 x.2.2.2.1 x.2.2.2.2.1 x.2.2.2.2.2
noncomputable def f54.s0.b : Code := (findLoop 0 f54.c).getD .skip
def f54.s0.h : Hint := { lv := [5, 6, 8, 27, 28, 29] }
def f54.s0.ho : Hint := { lv := [6, 8] }
def f54.s0.shp (x : Int × Int × Int × List Int × List Int × List Int) : VS := ⟨[(5, .ptr 0 0), (6, .ptr 1 0), (8, .int .u64 x.1), (27, .sl 2 0 2 2), (28, .int .i64 x.2.1), (29, .int .i64 x.2.2.1)], [(0, ([.ints .u64 4 x.2.2.2.1], 24, .norm)), (1, ([.ints .u64 4 x.2.2.2.2.1], 24, .norm)), (2, ([.ints .u64 8 x.2.2.2.2.2], 24, .norm))], 3⟩
def f54.s0.inX : VS → Option (Int × Int × Int × List Int × List Int × List Int)
  | ⟨[(5, .ptr 0 0), (6, .ptr 1 0), (8, .int .u64 t8), (27, .sl 2 0 2 2), (28, .int .i64 t28), (29, .int .i64 t29)], [(0, ([.ints .u64 4 b0], 24, .norm)), (1, ([.ints .u64 4 b1], 24, .norm)), (2, ([.ints .u64 8 b2], 24, .norm))], 3⟩ => some (t8, t28, t29, b0, b1, b2)
  | _ => none
def f54.s0.o0 (y : Int × List Int) : VS := ⟨[(6, .ptr 0 0), (8, .int .u64 y.1)], [(0, ([.ints .u64 4 y.2], 24, .norm))], 1⟩
def f54.s0.des : ∀ α : Type, (Int × List Int) → (Ex → VS → Option α) → Option α := (des1 (.exit 0) f54.s0.o0)
def f54.s0.out : Int × List Int → Ex × VS := (fun y => (.exit 0, f54.s0.o0 y))
theorem f54.s0.desOK : ∀ α y (k : Ex → VS → Option α), f54.s0.des α y k = k (f54.s0.out y).1 (f54.s0.out y).2 := (fun _ _ _ => rfl)
def f54.s0.inY : Ex → VS → Option (Int × List Int)
  | .exit 0, ⟨[(6, .ptr 0 0), (8, .int .u64 t8)], [(0, ([.ints .u64 4 b0], 24, .norm))], 1⟩ => some (t8, b0)
  | _, _ => none
def f54.s4t (K : Nat) (rec : Int × Int × List Int × List Int × List Int × List Int → Option (List Int)) (t76 : Int) (t77 : Int) (b0 : List Int) (b1 : List Int) (b2 : List Int) (b3 : List Int) : Option (List Int) :=
  bif (decide (t77 < t76)) then
    (f40.F K (b0, t77)).bind fun y29 =>
    bif (y29 == 1) then
      (f101.F K (b2, b3, b1)).bind fun y30 =>
      (f101.F K (b3, b3, b1)).bind fun y31 =>
      rec (t76, (IntKind.wrap .i64 (t77 + 1)), b0, b1, y30, y31)
    else
      (f101.F K (b3, b3, b1)).bind fun y33 =>
      rec (t76, (IntKind.wrap .i64 (t77 + 1)), b0, b1, b2, y33)
  else
    some b2
def f54.s4 (K : Nat) (rec : Int × Int × List Int × List Int × List Int × List Int → Option (List Int)) (x : Int × Int × List Int × List Int × List Int × List Int) : Option (List Int) := f54.s4t K rec x.1 x.2.1 x.2.2.1 x.2.2.2.1 x.2.2.2.2.1 x.2.2.2.2.2
noncomputable def f54.s4.b : Code := (findLoop 4 f54.c).getD .skip
def f54.s4.h : Hint := { lv := [4, 5, 6, 15, 76, 77] }
def f54.s4.ho : Hint := { lv := [6] }
def f54.s4.shp (x : Int × Int × List Int × List Int × List Int × List Int) : VS := ⟨[(4, .ptr 0 0), (5, .ptr 1 0), (6, .ptr 2 0), (15, .ptr 3 0), (76, .int .i64 x.1), (77, .int .i64 x.2.1)], [(0, ([.ints .u64 4 x.2.2.1], 24, .norm)), (1, ([.ints .u64 4 x.2.2.2.1], 24, .norm)), (2, ([.ints .u64 4 x.2.2.2.2.1], 24, .norm)), (3, ([.ints .u64 4 x.2.2.2.2.2], 24, .norm))], 4⟩
def f54.s4.inX : VS → Option (Int × Int × List Int × List Int × List Int × List Int)
  | ⟨[(4, .ptr 0 0), (5, .ptr 1 0), (6, .ptr 2 0), (15, .ptr 3 0), (76, .int .i64 t76), (77, .int .i64 t77)], [(0, ([.ints .u64 4 b0], 24, .norm)), (1, ([.ints .u64 4 b1], 24, .norm)), (2, ([.ints .u64 4 b2], 24, .norm)), (3, ([.ints .u64 4 b3], 24, .norm))], 4⟩ => some (t76, t77, b0, b1, b2, b3)
  | _ => none
def f54.s4.o0 (y : List Int) : VS := ⟨[(6, .ptr 0 0)], [(0, ([.ints .u64 4 y], 24, .norm))], 1⟩
def f54.s4.des : ∀ α : Type, (List Int) → (Ex → VS → Option α) → Option α := (des1 (.exit 4) f54.s4.o0)
def f54.s4.out : List Int → Ex × VS := (fun y => (.exit 4, f54.s4.o0 y))
theorem f54.s4.desOK : ∀ α y (k : Ex → VS → Option α), f54.s4.des α y k = k (f54.s4.out y).1 (f54.s4.out y).2 := (fun _ _ _ => rfl)
def f54.s4.inY : Ex → VS → Option (List Int)
  | .exit 4, ⟨[(6, .ptr 0 0)], [(0, ([.ints .u64 4 b0], 24, .norm))], 1⟩ => some b0
  | _, _ => none
def f54.lp (K : Nat) : Nat → Option (Hint × Summ) := tabLp [(2, f54.s2.h, summOf (iter (f54.s2 K) K) f54.s2.inX f54.s2.des), (0, f54.s0.h, summOf (iter (f54.s0 K) K) f54.s0.inX f54.s0.des), (4, f54.s4.h, summOf (iter (f54.s4 K) K) f54.s4.inX f54.s4.des)]
noncomputable def f54.tab (K : Nat) : List (Nat × Entry) := [(95, (f95.E K)), (42, (f42.E K)), (100, (f100.E K)), (46, (f46.E K)), (34, (f34.E K)), (52, (f52.E K)), (101, (f101.E K)), (40, (f40.E K))]
theorem f54.tabOK (K : Nat) : SpecOK Try.prog (tabSp (f54.tab K)) := tab_ok ((tab_cons (f95.ok K) (tab_cons (f42.ok K) (tab_cons (f100.ok K) (tab_cons (f46.ok K) (tab_cons (f34.ok K) (tab_cons (f52.ok K) (tab_cons (f101.ok K) (tab_cons (f40.ok K) tab_nil)))))))))
theorem f54.s2.eq (K : Nat) (rec : Int × Int × Int × Int × List Int × List Int × List Int × List Int → Option (Int × Int × Int × List Int × List Int × List Int)) (x : Int × Int × Int × Int × List Int × List Int × List Int × List Int) : f54.s2 K rec x = roundL (getA tys) (tabSp (f54.tab K)) 94 0 (f54.lp K) 400 f54.s2.b f54.s2.h f54.s2.ho f54.s2.shp f54.s2.inX f54.s2.inY rec x := by kernel_rfl
theorem f54.s2.lok (K : Nat) : LoopsOK Try.prog 94 0 (f54.lp K) f54.s2.b := loops_ok (by
  have h : loopsIn (f54.lp K) f54.s2.b = [] := by kernel_rfl
  rw [h]; simp)
theorem f54.s2.ok (K : Nat) : SummOK Try.prog 94 0 (summOf (iter (f54.s2 K) K) f54.s2.inX f54.s2.des) f54.s2.b :=
  loop_ok mix tys_ok (f54.tabOK K) (h := f54.s2.h) (ho := f54.s2.ho) (shp := f54.s2.shp) (inX := f54.s2.inX) (des := f54.s2.des) (out := f54.s2.out) (inY := f54.s2.inY) (fuel := 400)
    (by intro st x h; unfold f54.s2.inX at h; split at h <;> simp at h; subst h; rfl)
    (by intro e st y h; unfold f54.s2.inY at h; split at h <;> simp at h <;> subst h <;> rfl)
    f54.s2.desOK (f54.s2.lok K) (f54.s2 K) (f54.s2.eq K) K
theorem f54.s0.eq (K : Nat) (rec : Int × Int × Int × List Int × List Int × List Int → Option (Int × List Int)) (x : Int × Int × Int × List Int × List Int × List Int) : f54.s0 K rec x = roundL (getA tys) (tabSp (f54.tab K)) 94 0 (f54.lp K) 400 f54.s0.b f54.s0.h f54.s0.ho f54.s0.shp f54.s0.inX f54.s0.inY rec x := by kernel_rfl
theorem f54.s0.lok (K : Nat) : LoopsOK Try.prog 94 0 (f54.lp K) f54.s0.b := loops_ok (by
  have h : loopsIn (f54.lp K) f54.s0.b = [(2, f54.s2.b)] := by kernel_rfl
  rw [h]
  intro p hp
  simp only [List.mem_cons, List.not_mem_nil, or_false] at hp
  rcases hp with rfl
  · exact ⟨_, rfl, (f54.s2.ok K)⟩)
theorem f54.s0.ok (K : Nat) : SummOK Try.prog 94 0 (summOf (iter (f54.s0 K) K) f54.s0.inX f54.s0.des) f54.s0.b :=
  loop_ok mix tys_ok (f54.tabOK K) (h := f54.s0.h) (ho := f54.s0.ho) (shp := f54.s0.shp) (inX := f54.s0.inX) (des := f54.s0.des) (out := f54.s0.out) (inY := f54.s0.inY) (fuel := 400)
    (by intro st x h; unfold f54.s0.inX at h; split at h <;> simp at h; subst h; rfl)
    (by intro e st y h; unfold f54.s0.inY at h; split at h <;> simp at h <;> subst h <;> rfl)
    f54.s0.desOK (f54.s0.lok K) (f54.s0 K) (f54.s0.eq K) K
theorem f54.s4.eq (K : Nat) (rec : Int × Int × List Int × List Int × List Int × List Int → Option (List Int)) (x : Int × Int × List Int × List Int × List Int × List Int) : f54.s4 K rec x = roundL (getA tys) (tabSp (f54.tab K)) 94 0 (f54.lp K) 400 f54.s4.b f54.s4.h f54.s4.ho f54.s4.shp f54.s4.inX f54.s4.inY rec x := by kernel_rfl
theorem f54.s4.lok (K : Nat) : LoopsOK Try.prog 94 0 (f54.lp K) f54.s4.b := loops_ok (by
  have h : loopsIn (f54.lp K) f54.s4.b = [] := by kernel_rfl
  rw [h]; simp)
theorem f54.s4.ok (K : Nat) : SummOK Try.prog 94 0 (summOf (iter (f54.s4 K) K) f54.s4.inX f54.s4.des) f54.s4.b :=
  loop_ok mix tys_ok (f54.tabOK K) (h := f54.s4.h) (ho := f54.s4.ho) (shp := f54.s4.shp) (inX := f54.s4.inX) (des := f54.s4.des) (out := f54.s4.out) (inY := f54.s4.inY) (fuel := 400)
    (by intro st x h; unfold f54.s4.inX at h; split at h <;> simp at h; subst h; rfl)
    (by intro e st y h; unfold f54.s4.inY at h; split at h <;> simp at h <;> subst h <;> rfl)
    f54.s4.desOK (f54.s4.lok K) (f54.s4 K) (f54.s4.eq K) K
theorem f54.loops (K : Nat) : LoopsOK Try.prog 94 0 (f54.lp K) f54.c := loops_ok (by
  have h : loopsIn (f54.lp K) f54.c = [(0, f54.s0.b), (2, f54.s2.b), (4, f54.s4.b)] := by kernel_rfl
  rw [h]
  intro p hp
  simp only [List.mem_cons, List.not_mem_nil, or_false] at hp
  rcases hp with rfl | rfl | rfl
  · exact ⟨_, rfl, (f54.s0.ok K)⟩
  · exact ⟨_, rfl, (f54.s2.ok K)⟩
  · exact ⟨_, rfl, (f54.s4.ok K)⟩)
def f54.T (K : Nat) (a0 : List Int) (a1 : List Int) (a2 : List Int) : Option (List Int × Int) :=
  (f95.F K ()).bind fun y1 =>
  bif (eqL 4 a2 y1 && true) then
    some ([0, 0, 0, 0], 1)
  else
    (f42.F K a2).bind fun y3 =>
    bif (decide (y3 ≤ 64)) then
      (iter (f54.s0 K) K (0, 2, 0, a2, [0, 0, 0, 0], (spl (spl [] 0 4 a1) 4 4 a0))).bind fun y18 =>
      (f46.F K y18.1).bind fun y19 =>
      some (y19, 0)
    else
      (f95.F K ()).bind fun y20 =>
      (f46.F K 1).bind fun y21 =>
      (f34.F K (y20, y21)).bind fun y22 =>
      (f52.F K (a0, a2)).bind fun y23 =>
      (f52.F K (y22.1, a2)).bind fun y24 =>
      (f46.F K 1).bind fun y25 =>
      (f101.F K (y24.2.1, y25, a2)).bind fun y26 =>
      (f42.F K a1).bind fun y27 =>
      (iter (f54.s4 K) K (y27, 0, a1, a2, y23.2.1, y26)).bind fun y35 =>
      some (y35, 0)
def f54.F (K : Nat) (x : List Int × List Int × List Int) : Option (List Int × Int) := f54.T K x.1 x.2.1 x.2.2
def f54.av (x : List Int × List Int × List Int) : List VV := [.agg [.ints .u64 4 x.1], .agg [.ints .u64 4 x.2.1], .agg [.ints .u64 4 x.2.2]]
def f54.bl (_x : List Int × List Int × List Int) : List (Nat × Blk) := []
def f54.inA : VS → Option (List Int × List Int × List Int)
  | ⟨[(0, .agg [.ints .u64 4 a0]), (1, .agg [.ints .u64 4 a1]), (2, .agg [.ints .u64 4 a2])], [], 0⟩ => some (a0, a1, a2)
  | _ => none
def f54.o0 (y : List Int × Int) : VS := ⟨[(0, .tup [.agg [.ints .u64 4 y.1], .int .i64 y.2])], [], 0⟩
def f54.des : ∀ α : Type, (List Int × Int) → (VS → Option α) → Option α := (dv1 f54.o0)
def f54.out : List Int × Int → VS := f54.o0
def f54.inR : VS → Option (List Int × Int)
  | ⟨[(0, .tup [.agg [.ints .u64 4 y_0], .int .i64 y_1])], [], 0⟩ => some (y_0, y_1)
  | _ => none
noncomputable def f54.E (K : Nat) : Entry := genE 0 f54.inA (f54.F K) f54.des
theorem f54.eq (K : Nat) (x : List Int × List Int × List Int) : f54.F K x = xrun (getA tys) (tabSp (f54.tab K)) Try.f54.ntmps 0 (f54.lp K) 400 f54.c ⟨initL 0 (f54.av x), f54.bl x, 0⟩ (contF (getA tys) 0 Try.f54.results.toList f54.inR) := by kernel_rfl
theorem f54.ok (K : Nat) : EntryOK Try.prog 54 (f54.E K) :=
  gen_ok mix tys_ok (f54.tabOK K) Try.func54 (by kernel_rfl : Try.f54.body = some f54.c) (by kernel_rfl) (f54.loops K) (av := f54.av) (bl := f54.bl) (out := f54.out) (fuel := 400)
    (by intro s x h; unfold f54.inA at h; split at h <;> simp at h; subst h; rfl) (fun _ => Nat.le_of_ble_eq_true rfl)
    (by intro s y h; unfold f54.inR at h; split at h <;> simp at h <;> subst h <;> rfl) (fun _ _ _ => rfl) (f54.eq K)
end Go.Proofs

namespace Go.Proofs
open Go.VM
end Go.Proofs

namespace Go.Proofs
open Go.VM
end Go.Proofs

namespace Go.Proofs
open Go.VM
end Go.Proofs

namespace Go.Proofs
open Go.VM
end Go.Proofs

namespace Go.Proofs
open Go.VM
end Go.Proofs

namespace Go.Proofs
open Go.VM
end Go.Proofs
