/- Plain laws: lemmas that hold with no condition but those that each states. -/
import Derived.Test.YtmbbkmljmienjaaQ7
import Derived.Test.YtmbbkmljmienjaaQ3
namespace Go.Proofs
open Go.VM
end Go.Proofs

namespace Go.Proofs
open Go.VM
end Go.Proofs

namespace Go.Proofs
open Go.VM
end Go.Proofs

namespace Go.Proofs
open Go.VM
end Go.Proofs

namespace Go.Proofs
open Go.VM
end Go.Proofs

namespace Go.Proofs
open Go.VM
abbrev f24v1.Ty0 := Nat × Int × Int × List Ent × List Int × List Int × Int × Int × List Int
abbrev f24v1.Ty1 := List Ent × List Int × List Int × Int × Int × List Int
abbrev f24v1.Ty2 := ByteArray × Nat × List Ent
abbrev f24v1.Ty3 := List Int × List Ent
noncomputable def f24v1.c : Code := bodyOf Try.f24
def f24v1.s0t (K : Nat) (rec : f24v1.Ty0 → Option (f24v1.Ty1)) (t19 : Nat) (t20 : Int) (t21 : Int) (b0 : List Ent) (b3 : List Int) (b4_0 : List Int) (b4_1 : Int) (b4_2 : Int) (b5 : List Int) : Option (f24v1.Ty1) :=
  bif (decide (t21 < t20)) then
    bif decide (0 ≤ t21 ∧ t21 < ((t19 : Nat) : Int)) then
      let v11 := 0 + (Int.toNat t21)
      bif Nat.blt v11 (List.length b0) then
        let v12 := (entAt b0 v11).1
        bif ((Nat.ble (0 + v12) ((entAt b0 v11).1) && true) && true) then
          (f58.F K (0, v12, 0, [], v12, (subI ((entAt b0 v11).2.2) 0 v12))).bind fun y15 =>
          bif ((Nat.ble (0 + y15.1) y15.2.2.2.2.2.1 && true) && true) then
            (f57.F K (b4_0, b4_1, b4_2, y15.1, b5, y15.1, (subI y15.2.2.2.2.2.2 0 y15.1))).bind fun y16 =>
            rec (t19, t20, (IntKind.wrap .i64 (t21 + 1)), b0, b3, y16.1, y16.2.1, y16.2.2.1, y16.2.2.2.2.2.2)
          else
            none
        else
          none
      else
        none
    else
      none
  else
    some (b0, b3, b4_0, b4_1, b4_2, b5)
def f24v1.s0 (K : Nat) (rec : f24v1.Ty0 → Option (f24v1.Ty1)) (x : f24v1.Ty0) : Option (f24v1.Ty1) := f24v1.s0t K rec x.1 x.2.1 x.2.2.1 x.2.2.2.1 x.2.2.2.2.1 x.2.2.2.2.2.1 x.2.2.2.2.2.2.1 x.2.2.2.2.2.2.2.1 x.2.2.2.2.2.2.2.2
noncomputable def f24v1.s0.b : Code := (findLoop 0 f24v1.c).getD .skip
def f24v1.s0.h : Hint := { lv := [4, 5, 19, 20, 21] }
def f24v1.s0.ho : Hint := { lv := [4, 5] }
def f24v1.s0.shp (x : f24v1.Ty0) : VS := ⟨[(4, .ptr 3 0), (5, .ptr 4 0), (19, .vw true 0 0 x.1 1), (20, .int .i64 x.2.1), (21, .int .i64 x.2.2.1)], [(0, ([], 0, .rr false 2 x.2.2.2.1)), (3, ([.ints .u8 32 x.2.2.2.2.1], 29, .norm)), (4, ([.ptr 5 0, .ints .u8 64 x.2.2.2.2.2.1, .int .i64 x.2.2.2.2.2.2.1, .int .u64 x.2.2.2.2.2.2.2.1], 117, .norm)), (5, ([.ints .u32 8 x.2.2.2.2.2.2.2.2], 113, .norm))], 6⟩
def f24v1.s0.inX : VS → Option (f24v1.Ty0)
  | ⟨[(4, .ptr 3 0), (5, .ptr 4 0), (19, .vw true 0 0 t19 1), (20, .int .i64 t20), (21, .int .i64 t21)], [(0, ([], 0, .rr false 2 b0)), (3, ([.ints .u8 32 b3], 29, .norm)), (4, ([.ptr 5 0, .ints .u8 64 b4_0, .int .i64 b4_1, .int .u64 b4_2], 117, .norm)), (5, ([.ints .u32 8 b5], 113, .norm))], 6⟩ => some (t19, t20, t21, b0, b3, b4_0, b4_1, b4_2, b5)
  | _ => none
def f24v1.s0.o0 (y : f24v1.Ty1) : VS := ⟨[(4, .ptr 3 0), (5, .ptr 4 0)], [(0, ([], 0, .rr false 2 y.1)), (3, ([.ints .u8 32 y.2.1], 29, .norm)), (4, ([.ptr 5 0, .ints .u8 64 y.2.2.1, .int .i64 y.2.2.2.1, .int .u64 y.2.2.2.2.1], 117, .norm)), (5, ([.ints .u32 8 y.2.2.2.2.2], 113, .norm))], 6⟩
def f24v1.s0.des : ∀ α : Type, (f24v1.Ty1) → (Ex → VS → Option α) → Option α := (des1 (.exit 0) f24v1.s0.o0)
def f24v1.s0.out : f24v1.Ty1 → Ex × VS := (fun y => (.exit 0, f24v1.s0.o0 y))
theorem f24v1.s0.desOK : ∀ α y (k : Ex → VS → Option α), f24v1.s0.des α y k = k (f24v1.s0.out y).1 (f24v1.s0.out y).2 := (fun _ _ _ => rfl)
def f24v1.s0.inY : Ex → VS → Option (f24v1.Ty1)
  | .exit 0, ⟨[(4, .ptr 3 0), (5, .ptr 4 0)], [(0, ([], 0, .rr false 2 b0)), (3, ([.ints .u8 32 b3], 29, .norm)), (4, ([.ptr 5 0, .ints .u8 64 b4_0, .int .i64 b4_1, .int .u64 b4_2], 117, .norm)), (5, ([.ints .u32 8 b5], 113, .norm))], 6⟩ => some (b0, b3, b4_0, b4_1, b4_2, b5)
  | _, _ => none
def f24v1.lp (K : Nat) : Nat → Option (Hint × Summ) := tabLp [(0, f24v1.s0.h, summOf (iter (f24v1.s0 K) K) f24v1.s0.inX f24v1.s0.des)]
noncomputable def f24v1.tab (K : Nat) : List (Nat × Entry) := [(49, (f49.E K)), (58, (viewE [(0, .u8), (1, .u8)] (f58.E K))), (59, (viewE [(0, .u8)] (f59.E K))), (57, (orF (fitR 1 .u8 (fitE 8 f57v2.inA)) (rowsE 1 .u8 (f57v2.E K)) (rowsE 1 .u8 (f57.E K)))), (51, (f51.E K))]
theorem f24v1.tabOK (K : Nat) : SpecOK Try.prog (tabSp (f24v1.tab K)) := tab_ok ((tab_cons (f49.ok K) (tab_cons (view_ok (f58.ok K)) (tab_cons (view_ok (f59.ok K)) (tab_cons (orF_ok (rows_ok (f57v2.ok K)) (rows_ok (f57.ok K))) (tab_cons (f51.ok K) tab_nil))))))
theorem f24v1.s0.eq (K : Nat) (rec : f24v1.Ty0 → Option (f24v1.Ty1)) (x : f24v1.Ty0) : f24v1.s0 K rec x = roundL (getA tys) (tabSp (f24v1.tab K)) 33 3 (f24v1.lp K) 400 f24v1.s0.b f24v1.s0.h f24v1.s0.ho f24v1.s0.shp f24v1.s0.inX f24v1.s0.inY rec x := by kernel_rfl
theorem f24v1.s0.lok (K : Nat) : LoopsOK Try.prog 33 3 (f24v1.lp K) f24v1.s0.b := loops_ok (by
  have h : loopsIn (f24v1.lp K) f24v1.s0.b = [] := by kernel_rfl
  rw [h]; simp)
theorem f24v1.s0.ok (K : Nat) : SummOK Try.prog 33 3 (summOf (iter (f24v1.s0 K) K) f24v1.s0.inX f24v1.s0.des) f24v1.s0.b :=
  loop_ok mix tys_ok (f24v1.tabOK K) (h := f24v1.s0.h) (ho := f24v1.s0.ho) (shp := f24v1.s0.shp) (inX := f24v1.s0.inX) (des := f24v1.s0.des) (out := f24v1.s0.out) (inY := f24v1.s0.inY) (fuel := 400)
    (by intro st x h; unfold f24v1.s0.inX at h; split at h <;> simp at h; subst h; rfl)
    (by intro e st y h; unfold f24v1.s0.inY at h; split at h <;> simp at h <;> subst h <;> rfl)
    f24v1.s0.desOK (f24v1.s0.lok K) (f24v1.s0 K) (f24v1.s0.eq K) K
theorem f24v1.loops (K : Nat) : LoopsOK Try.prog 33 3 (f24v1.lp K) f24v1.c := loops_ok (by
  have h : loopsIn (f24v1.lp K) f24v1.c = [(0, f24v1.s0.b)] := by kernel_rfl
  rw [h]
  intro p hp
  simp only [List.mem_cons, List.not_mem_nil, or_false] at hp
  rcases hp with rfl
  · exact ⟨_, rfl, (f24v1.s0.ok K)⟩)
def f24v1.T (K : Nat) (a0 : ByteArray) (a1 : Nat) (m0 : List Ent) : Option (f24v1.Ty3) :=
  (f49.F K ()).bind fun y1 =>
  let v2 := ByteArray.size a0
  bif ((Nat.ble (0 + v2) (ByteArray.size a0) && true) && true) then
    (f58.F K (0, v2, 0, [], v2, (subI (strL a0) 0 v2))).bind fun y4 =>
    (f59.F K (0, (IntKind.wrap .u64 ((a1 : Nat) : Int)), 4, 0, [])).bind fun y7 =>
    bif ((Nat.ble (0 + y4.1) y4.2.2.2.2.2.1 && true) && ((Nat.ble (0 + y7.1) y7.2.2.2.2.1 && (Nat.ble y7.1 y7.2.1)) && true)) then
      (f57v2.F K (y1.1, y1.2.1, y1.2.2.1, y4.1, y7.1, y1.2.2.2, y4.1, (subI y4.2.2.2.2.2.2 0 y4.1), y7.1, (subI y7.2.2.2.2.2 0 y7.1))).bind fun y8 =>
      (iter (f24v1.s0 K) K (a1, ((a1 : Nat) : Int), 0, m0, [0, 0, 0, 0, 0, 0, 0, 0, 0, 0, 0, 0, 0, 0, 0, 0, 0, 0, 0, 0, 0, 0, 0, 0, 0, 0, 0, 0, 0, 0, 0, 0], y8.1, y8.2.1, y8.2.2.1, y8.2.2.2.2.2.2.2.2.2)).bind fun y18 =>
      (f51.F K (y18.2.2.1, y18.2.2.2.1, y18.2.2.2.2.1, y18.2.2.2.2.2)).bind fun y19 =>
      some (y19.1, y18.1)
    else
      none
  else
    none
def f24v1.F (K : Nat) (x : f24v1.Ty2) : Option (f24v1.Ty3) := f24v1.T K x.1 x.2.1 x.2.2
def f24v1.av (x : f24v1.Ty2) : List VV := [.str x.1, .vw true 0 0 x.2.1 1]
def f24v1.bl (x : f24v1.Ty2) : List (Nat × Blk) := [(0, ([], 0, .rr false 2 x.2.2))]
def f24v1.inA : VS → Option (f24v1.Ty2)
  | ⟨[(0, .str a0), (1, .vw true 0 0 a1 1)], [(0, ([], 0, .rr false 2 m0))], 3⟩ => some (a0, a1, m0)
  | _ => none
def f24v1.o0 (y : f24v1.Ty3) : VS := ⟨[(0, .agg [.ints .u8 32 y.1])], [(0, ([], 0, .rr false 2 y.2))], 3⟩
def f24v1.des : ∀ α : Type, (f24v1.Ty3) → (VS → Option α) → Option α := (dv1 f24v1.o0)
def f24v1.out : f24v1.Ty3 → VS := f24v1.o0
def f24v1.inR : VS → Option (f24v1.Ty3)
  | ⟨[(0, .agg [.ints .u8 32 y])], [(0, ([], 0, .rr false 2 z0))], 3⟩ => some (y, z0)
  | _ => none
noncomputable def f24v1.E (K : Nat) : Entry := genE 3 f24v1.inA (f24v1.F K) f24v1.des
theorem f24v1.eq (K : Nat) (x : f24v1.Ty2) : f24v1.F K x = xrun (getA tys) (tabSp (f24v1.tab K)) Try.f24.ntmps 3 (f24v1.lp K) 400 f24v1.c ⟨initL 0 (f24v1.av x), f24v1.bl x, 3⟩ (contF (getA tys) 3 Try.f24.results.toList f24v1.inR) := by kernel_rfl
theorem f24v1.ok (K : Nat) : EntryOK Try.prog 24 (f24v1.E K) :=
  gen_ok mix tys_ok (f24v1.tabOK K) Try.func24 (by kernel_rfl : Try.f24.body = some f24v1.c) (by kernel_rfl) (f24v1.loops K) (av := f24v1.av) (bl := f24v1.bl) (out := f24v1.out) (fuel := 400)
    (by intro s x h; unfold f24v1.inA at h; split at h <;> simp at h; subst h; rfl) (fun _ => Nat.le_of_ble_eq_true rfl)
    (by intro s y h; unfold f24v1.inR at h; split at h <;> simp at h <;> subst h <;> rfl) (fun _ _ _ => rfl) (f24v1.eq K)
end Go.Proofs

namespace Go.Proofs
open Go.VM
abbrev f53v2.Ty0 := List Int × ByteArray × Nat × Nat × Nat × List Ent
abbrev f53v2.Ty1 := Int × ByteArray × Nat × Nat × Nat × List Ent
def f53v2.T (K : Nat) (a0 : Int) (m0 : ByteArray) (m1_0 : Nat) (m1_1 : Nat) (m2_0 : Nat) (m2_1 : List Ent) : Option (f53v2.Ty0) :=
  bif ((Nat.ble m1_0 (List.length m2_1) && (Nat.ble (m1_0 + 1) m1_1)) && (Nat.ble m1_1 m2_0)) then
    let v1 := ((List.take m1_0 m2_1) ++ ([(1, 1, [a0])] : List Ent) : List Ent)
    bif (Nat.ble (m1_0 + 1) (List.length v1) && (Nat.ble (m1_0 + 1) m1_1)) then
      (f24v1.F K (m0, (m1_0 + 1), (List.take (m1_0 + 1) v1))).bind fun y2 =>
      (f31.F K (32, 32, (subI y2.1 0 32))).bind fun y3 =>
      some (y3.1, m0, m1_0, m1_1, m2_0, v1)
    else
      none
  else
    none
def f53v2.F (K : Nat) (x : f53v2.Ty1) : Option (f53v2.Ty0) := f53v2.T K x.1 x.2.1 x.2.2.1 x.2.2.2.1 x.2.2.2.2.1 x.2.2.2.2.2
def f53v2.av (x : f53v2.Ty1) : List VV := [.int .u8 x.1, .ptr 0 0, .ptr 1 0]
def f53v2.bl (x : f53v2.Ty1) : List (Nat × Blk) := [(0, ([.str x.2.1], 9, .norm)), (1, ([.sl 2 0 x.2.2.1 x.2.2.2.1], 23, .norm)), (2, ([], 22, .rm x.2.2.2.2.1 false 3 x.2.2.2.2.2))]
def f53v2.inA : VS → Option (f53v2.Ty1)
  | ⟨[(0, .int .u8 a0), (1, .ptr 0 0), (2, .ptr 1 0)], [(0, ([.str m0], 9, .norm)), (1, ([.sl 2 0 m1_0 m1_1], 23, .norm)), (2, ([], 22, .rm m2_0 false 3 m2_1))], 4⟩ => some (a0, m0, m1_0, m1_1, m2_0, m2_1)
  | _ => none
def f53v2.o0 (y : f53v2.Ty0) : VS := ⟨[(0, .agg [.ints .u64 4 y.1])], [(0, ([.str y.2.1], 9, .norm)), (1, ([.sl 2 0 y.2.2.1 y.2.2.2.1], 23, .norm)), (2, ([], 22, .rm y.2.2.2.2.1 false 4 y.2.2.2.2.2))], 5⟩
def f53v2.inR : VS → Option (f53v2.Ty0)
  | ⟨[(0, .agg [.ints .u64 4 y])], [(0, ([.str z0], 9, .norm)), (1, ([.sl 2 0 z1_0 z1_1], 23, .norm)), (2, ([], 22, .rm z2_0 false 4 z2_1))], 5⟩ => some (y, z0, z1_0, z1_1, z2_0, z2_1)
  | _ => none
noncomputable def f53v2.E (K : Nat) : Entry := genE 4 f53v2.inA (f53v2.F K) (dv1 f53v2.o0)
theorem f53v2.ok (K : Nat) : EntryOK Try.prog 53 (f53v2.E K) := gen_ok mix tys_ok (sp := tabSp [(24, (rwE 1 (f24v1.E K))), (31, (viewE [(0, .u8)] (f31.E K)))]) (tab_ok ((tab_cons (rw_ok (f24v1.ok K)) (tab_cons (view_ok (f31.ok K)) tab_nil)))) Try.func53 (c := bodyOf Try.f53) (by kernel_rfl) (by kernel_rfl) (loops_none (lp := lpNone) (by kernel_rfl)) (av := f53v2.av) (bl := f53v2.bl) (inR := f53v2.inR) (out := f53v2.o0) (fuel := 400)
  (by intro s x h; unfold f53v2.inA at h; split at h <;> simp at h; subst h; rfl) (fun _ => Nat.le_of_ble_eq_true rfl)
  (by intro s y h; unfold f53v2.inR at h; split at h <;> simp at h <;> subst h <;> rfl) (fun _ _ _ => rfl) (fun _ => by kernel_rfl)
end Go.Proofs

namespace Go.Proofs
open Go.VM
abbrev f22v1.Ty0 := List Int × ByteArray × Nat × List Ent
abbrev f22v1.Ty1 := List Int × Int × List Ent
def f22v1.T (K : Nat) (a0 : List Int) (a1 : ByteArray) (a2 : Nat) (m0 : List Ent) : Option (f22v1.Ty1) :=
  let v1 := ((a2 : Nat) : Int)
  let v3 := IntKind.wrap .i64 (((a2 : Nat) : Int) + 1)
  bif lenOK v1 v3 24 then
    let v4 := Int.toNat v1
    let v7 := (List.replicate (Int.toNat v1) (0, 0, []) : List Ent)
    bif (Nat.beq a2 (List.length m0) && (Nat.ble v4 (List.length v7))) then
      (f53v2.F K (1, a1, v4, (Int.toNat v3), (Int.toNat v3), ((List.take (Nat.min a2 v4) m0) ++ (List.drop (Nat.min a2 v4) v7) : List Ent))).bind fun y10 =>
      (f53v2.F K (0, y10.2.1, y10.2.2.1, y10.2.2.2.1, y10.2.2.2.2.1, y10.2.2.2.2.2)).bind fun y11 =>
      (f54.F K (y10.1, y11.1, a0)).bind fun y12 =>
      some (y12.1, y12.2, m0)
    else
      none
  else
    none
def f22v1.F (K : Nat) (x : f22v1.Ty0) : Option (f22v1.Ty1) := f22v1.T K x.1 x.2.1 x.2.2.1 x.2.2.2
def f22v1.av (x : f22v1.Ty0) : List VV := [.agg [.ints .u64 4 x.1], .str x.2.1, .vw true 0 0 x.2.2.1 1]
def f22v1.bl (x : f22v1.Ty0) : List (Nat × Blk) := [(0, ([], 0, .rr false 2 x.2.2.2))]
def f22v1.inA : VS → Option (f22v1.Ty0)
  | ⟨[(0, .agg [.ints .u64 4 a0]), (1, .str a1), (2, .vw true 0 0 a2 1)], [(0, ([], 0, .rr false 2 m0))], 3⟩ => some (a0, a1, a2, m0)
  | _ => none
def f22v1.o0 (y : f22v1.Ty1) : VS := ⟨[(0, .tup [.agg [.ints .u64 4 y.1], .int .i64 y.2.1])], [(0, ([], 0, .rr false 2 y.2.2))], 3⟩
def f22v1.inR : VS → Option (f22v1.Ty1)
  | ⟨[(0, .tup [.agg [.ints .u64 4 y_0], .int .i64 y_1])], [(0, ([], 0, .rr false 2 z0))], 3⟩ => some (y_0, y_1, z0)
  | _ => none
noncomputable def f22v1.E (K : Nat) : Entry := genE 3 f22v1.inA (f22v1.F K) (dv1 f22v1.o0)
theorem f22v1.ok (K : Nat) : EntryOK Try.prog 22 (f22v1.E K) := gen_ok mix tys_ok (tab_ok ((tab_cons (f53v2.ok K) (tab_cons (f54.ok K) tab_nil)))) Try.func22 (c := bodyOf Try.f22) (by kernel_rfl) (by kernel_rfl) (loops_none (lp := lpNone) (by kernel_rfl)) (av := f22v1.av) (bl := f22v1.bl) (inR := f22v1.inR) (out := f22v1.o0) (fuel := 400)
  (by intro s x h; unfold f22v1.inA at h; split at h <;> simp at h; subst h; rfl) (fun _ => Nat.le_of_ble_eq_true rfl)
  (by intro s y h; unfold f22v1.inR at h; split at h <;> simp at h <;> subst h <;> rfl) (fun _ _ _ => rfl) (fun _ => by kernel_rfl)
end Go.Proofs

namespace Go.Proofs
open Go.VM
end Go.Proofs

namespace Go.Proofs
open Go.VM
end Go.Proofs

namespace Go.Proofs
open Go.VM
end Go.Proofs

namespace Go.Proofs
open Go.VM
abbrev f21.Ty0 := ByteArray × Nat × List Ent
def f21.T (K : Nat) (a0 : ByteArray) (a1 : Nat) (m0 : List Ent) : Option (Bool × List Ent) :=
  bif (decide (((ByteArray.size a0 : Nat) : Int) > 5000)) then
    some (true, m0)
  else
    bif (decide (((a1 : Nat) : Int) > 200)) then
      some (true, m0)
    else
      bif Nat.beq a1 (List.length m0) then
        (f46.F K (a1, m0)).bind fun y5 =>
        some ((decide (y5.1 > 20000)), m0)
      else
        none
def f21.F (K : Nat) (x : f21.Ty0) : Option (Bool × List Ent) := f21.T K x.1 x.2.1 x.2.2
def f21.av (x : f21.Ty0) : List VV := [.str x.1, .vw true 0 0 x.2.1 1]
def f21.bl (x : f21.Ty0) : List (Nat × Blk) := [(0, ([], 0, .rr false 2 x.2.2))]
def f21.inA : VS → Option (f21.Ty0)
  | ⟨[(0, .str a0), (1, .vw true 0 0 a1 1)], [(0, ([], 0, .rr false 2 m0))], 3⟩ => some (a0, a1, m0)
  | _ => none
def f21.o0 (y : Bool × List Ent) : VS := ⟨[(0, .bool y.1)], [(0, ([], 0, .rr false 2 y.2))], 3⟩
def f21.inR : VS → Option (Bool × List Ent)
  | ⟨[(0, .bool y)], [(0, ([], 0, .rr false 2 z0))], 3⟩ => some (y, z0)
  | _ => none
noncomputable def f21.E (K : Nat) : Entry := genE 3 f21.inA (f21.F K) (dv1 f21.o0)
theorem f21.ok (K : Nat) : EntryOK Try.prog 21 (f21.E K) := gen_ok mix tys_ok (sp := tabSp [(46, (rwE 0 (f46.E K)))]) (tab_ok ((tab_cons (rw_ok (f46.ok K)) tab_nil))) Try.func21 (c := bodyOf Try.f21) (by kernel_rfl) (by kernel_rfl) (loops_none (lp := lpNone) (by kernel_rfl)) (av := f21.av) (bl := f21.bl) (inR := f21.inR) (out := f21.o0) (fuel := 400)
  (by intro s x h; unfold f21.inA at h; split at h <;> simp at h; subst h; rfl) (fun _ => Nat.le_of_ble_eq_true rfl)
  (by intro s y h; unfold f21.inR at h; split at h <;> simp at h <;> subst h <;> rfl) (fun _ _ _ => rfl) (fun _ => by kernel_rfl)
end Go.Proofs

namespace Go.Proofs
open Go.VM
def Rs.fcat (ll : List Ent) : List Int := ll.flatMap fun e => Sh.frame (Rs.sh e)
def Rs.shs (ll : List Ent) : List (List Int) := ll.map Rs.sh
theorem Rs.fcat_next {ll : List Ent} {i : Nat} (h : i < ll.length) : Rs.fcat (ll.take (i + 1)) = Rs.fcat (ll.take i) ++ Sh.frame (Rs.sh (entAt ll i)) := by
  rw [Rs.take_next h]; simp [Rs.fcat]
theorem Rs.fcat_cut (name : List Int) (ll : List Ent) : Sh.cut name (Rs.shs ll) = Sh.frame name ++ be 4 ll.length ++ Rs.fcat ll := by
  simp [Sh.cut, Rs.shs, Rs.fcat, List.flatMap_map]
theorem f58.none (K n : Nat) (l : List Int) (hl : l.length = n) (hn : n ≤ 1000000000) : f58.F K (0, n, 0, [], n, l) = some (4 + n, 0, [], n, l, 4 + n, Sh.frame l) := by
  have := f58.spec K 0 n [] l rfl hl (by omega) (by omega)
  rw [Nat.zero_add, List.nil_append] at this
  exact this
theorem f24v1.parts (K N : Nat) (ll : List Ent) (hN : ll.length = N) {b : Nat} (ho : Rs.ok b ll) (hb : b ≤ 1000000000) (hNb : N ≤ 1000000) (hK : N < K) (hK2 : 68 + b < K) (z32 m b0 s0 : List Int) (h0 : Int) (R : Sh.Rep m b0 h0 s0) :
    ∃ b' h' s', iter (f24v1.s0 K) K (N, ((N : Nat) : Int), 0, ll, z32, b0, h0, ((m.length % 18446744073709551616 : Nat) : Int), s0) = some (ll, z32, b', h', (((m ++ Rs.fcat ll).length % 18446744073709551616 : Nat) : Int), s') ∧ Sh.Rep (m ++ Rs.fcat ll) b' h' s' := by
  obtain ⟨y, ⟨b', h', s', hy, R'⟩, hI⟩ := iter_inv (stp := f24v1.s0 K) (fun j x => ∃ i b' h' s', i ≤ N ∧ j = N - i ∧ Sh.Rep (m ++ Rs.fcat (ll.take i)) b' h' s' ∧ x = (N, ((N : Nat) : Int), (i : Int), ll, z32, b', h', (((m ++ Rs.fcat (ll.take i)).length % 18446744073709551616 : Nat) : Int), s'))
    (fun y => ∃ b' h' s', y = (ll, z32, b', h', (((m ++ Rs.fcat ll).length % 18446744073709551616 : Nat) : Int), s') ∧ Sh.Rep (m ++ Rs.fcat ll) b' h' s') (by
    rintro j x ⟨i, b1, h1, s1, hi, rfl, R1, rfl⟩
    by_cases h : i < N
    · right
      have hi' : i < ll.length := by omega
      obtain ⟨hb1, ho1⟩ := ho _ (Rs.at_mem hi')
      have hfl : (Sh.frame (Rs.sh (entAt ll i))).length = 4 + (entAt ll i).1 := by rw [frame_length, Rs.sh_length]
      obtain ⟨b2, h2, s2, e2, R2⟩ := f57.spec K _ (4 + (entAt ll i).1) (Sh.frame (Rs.sh (entAt ll i))) hfl (frame_octets ho1) (by omega) _ _ _ R1 (by omega)
      rw [List.append_assoc, ← Rs.fcat_next hi'] at e2 R2
      refine ⟨_, N - (i + 1), by omega, ⟨i + 1, b2, h2, s2, by omega, rfl, R2, rfl⟩, fun rec => ?_⟩
      simp only [f24v1.s0, f24v1.s0t]
      rw [decide_eq_true (show (i : Int) < ((N : Nat) : Int) by omega), cond_t, decide_eq_true (show (0 : Int) ≤ (i : Int) ∧ (i : Int) < ((N : Nat) : Int) by omega), cond_t, Int.toNat_natCast, Nat.zero_add, Rs.blt hi', cond_t, Nat.zero_add, ble_true (Nat.le_refl _), Bool.and_self, Bool.and_self, cond_t]
      rw [show f58.F K (0, (entAt ll i).1, 0, [], (entAt ll i).1, subI (entAt ll i).2.2 0 (entAt ll i).1) = _ from f58.none K (entAt ll i).1 (Rs.sh (entAt ll i)) (Rs.sh_length _) (by omega), bind_s]
      simp only []
      rw [Nat.zero_add, ble_true (Nat.le_refl _), Bool.and_self, Bool.and_self, cond_t, subI_self _ hfl, e2, bind_s]
      simp only []
      rw [wrap_i _ (by omega) (by omega)]
      rfl
    · left
      have hiN : i = N := by omega
      subst hiN
      rw [List.take_of_length_le (show ll.length ≤ i by omega)] at R1 ⊢
      refine ⟨_, ⟨b1, h1, s1, rfl, R1⟩, fun rec => ?_⟩
      simp only [f24v1.s0, f24v1.s0t]
      rw [decide_eq_false (show ¬ (i : Int) < ((i : Nat) : Int) by omega), cond_f]) N _ ⟨0, b0, h0, s0, Nat.zero_le _, rfl, by simpa [Rs.fcat] using R, rfl⟩ K hK
  refine ⟨b', h', s', ?_, R'⟩
  rw [← hy, ← hI]
  simp [Rs.fcat]
theorem f24v1.spec (K N : Nat) (name : ByteArray) (ll : List Ent) (hs : name.size ≤ 1000000) (hN : ll.length = N) {b : Nat} (ho : Rs.ok b ll) (hb : b ≤ 1000000000) (hNb : N ≤ 1000000) (hK : 400 + name.size + N + b < K) :
    f24v1.F K (name, N, ll) = some (Sh.sha (strL name) (Rs.shs ll), ll) := by
  have hnl := strL_length name
  have hno := strL_octets name
  simp only [f24v1.F, f24v1.T]
  rw [show f49.F K () = some ([0, 0, 0, 0, 0, 0, 0, 0, 0, 0, 0, 0, 0, 0, 0, 0, 0, 0, 0, 0, 0, 0, 0, 0, 0, 0, 0, 0, 0, 0, 0, 0, 0, 0, 0, 0, 0, 0, 0, 0, 0, 0, 0, 0, 0, 0, 0, 0, 0, 0, 0, 0, 0, 0, 0, 0, 0, 0, 0, 0, 0, 0, 0, 0], 0, 0, Sh.init) from rfl, bind_s, Nat.zero_add, ble_true (Nat.le_refl name.size), Bool.and_self, Bool.and_self, cond_t, subI_self _ hnl, f58.none K name.size _ hnl (by omega), bind_s, wrap_u _ (by omega) (by omega)]
  have a1 : f59.F K (0, ((N : Nat) : Int), 4, 0, []) = some (4, 4, 0, [], 4, [] ++ be 4 N) := f59.spec K 0 4 N [] rfl (by omega) (by omega) (by omega)
  rw [List.nil_append] at a1
  rw [a1, bind_s]
  simp only []
  have hf := frame_length (strL name)
  rw [hnl] at hf
  rw [Nat.zero_add, Nat.zero_add, ble_true (Nat.le_refl (4 + name.size)), ble_true (Nat.le_refl 4), Bool.and_self, Bool.and_self, Bool.and_self, cond_t, subI_self _ hf, subI_self _ (be_length 4 N)]
  obtain ⟨B, H, S, c0, R⟩ := f57v2.spec K [] (4 + name.size) (Sh.frame (strL name)) 4 (be 4 N) hf (frame_octets hno) (by omega) (be_length _ _) (be_octets _ _) (by omega) _ _ _ Sh.rep0 (by omega)
  rw [show f57v2.F K ([0, 0, 0, 0, 0, 0, 0, 0, 0, 0, 0, 0, 0, 0, 0, 0, 0, 0, 0, 0, 0, 0, 0, 0, 0, 0, 0, 0, 0, 0, 0, 0, 0, 0, 0, 0, 0, 0, 0, 0, 0, 0, 0, 0, 0, 0, 0, 0, 0, 0, 0, 0, 0, 0, 0, 0, 0, 0, 0, 0, 0, 0, 0, 0], 0, 0, 4 + name.size, 4, Sh.init, 4 + name.size, Sh.frame (strL name), 4, be 4 N) = _ from c0, bind_s]
  simp only []
  rw [List.nil_append] at R ⊢
  obtain ⟨b2, h2, s2, e2, R2⟩ := f24v1.parts K N ll hN ho hb hNb (by omega) (by omega) [0, 0, 0, 0, 0, 0, 0, 0, 0, 0, 0, 0, 0, 0, 0, 0, 0, 0, 0, 0, 0, 0, 0, 0, 0, 0, 0, 0, 0, 0, 0, 0] _ _ _ _ R
  rw [e2, bind_s]
  simp only []
  rw [f51.spec K _ _ _ _ R2 (by omega), bind_s]
  simp only []
  rw [← hN, ← Rs.fcat_cut, ← Sh.sha]
theorem Rs.cut_length (name : ByteArray) (ll : List Ent) : (Sh.cut (strL name) (Rs.shs ll)).length = 8 + name.size + 4 * ll.length + Rs.tot ll := by
  have key : ∀ l : List Ent, (Rs.fcat l).length = 4 * l.length + Rs.tot l := fun l => by
    induction l with
    | nil => rfl
    | cons e l ih => simp only [Rs.fcat, Rs.tot, List.flatMap_cons, List.length_append, List.map_cons, List.sum_cons, List.length_cons, frame_length, Rs.sh_length] at ih ⊢; omega
  rw [Rs.fcat_cut, List.length_append, List.length_append, frame_length, be_length, key, strL_length]; omega
theorem Rs.cut_octets {b : Nat} (name : ByteArray) (ll : List Ent) (ho : Rs.ok b ll) : octets (Sh.cut (strL name) (Rs.shs ll)) := by
  rw [Rs.fcat_cut]
  refine octets_append (octets_append (frame_octets (strL_octets _)) (be_octets _ _)) fun x hx => ?_
  obtain ⟨e, he, hx⟩ := List.mem_flatMap.1 hx
  exact frame_octets (ho e he).2 x hx
end Go.Proofs

namespace Go.Proofs
open Go.VM
def f26.k0 : ByteArray := ByteArray.mk #[120]
def f26.T (K : Nat)  : Option (Bool) :=
  (f33.F K 1).bind fun y1 =>
  (f22v1.F K (y1, f26.k0, 0, ([] : List Ent))).bind fun y2 =>
  (f33.F K 0).bind fun y3 =>
  (f22v1.F K (y3, f26.k0, 0, ([] : List Ent))).bind fun y4 =>
  (f24v1.F K (f26.k0, 2, ([(1, 1, [97]), (2, 2, [98, 99])] : List Ent))).bind fun y5 =>
  (f30.F K (20, 20, [0, 0, 0, 1, 120, 0, 0, 0, 2, 0, 0, 0, 1, 97, 0, 0, 0, 2, 98, 99])).bind fun y6 =>
  bif (eqL 32 y5.1 y6.1 && true) then
    (f33.F K 0).bind fun y8 =>
    bif (eqL 4 y2.1 y8 && true) then
      bif (y2.2.1 == 0) then
        some (y4.2.1 == 1)
      else
        some false
    else
      some false
  else
    some false
def f26.F (K : Nat) (_x : Unit) : Option (Bool) := f26.T K
def f26.av (_x : Unit) : List VV := []
def f26.bl (_x : Unit) : List (Nat × Blk) := []
def f26.inA : VS → Option (Unit)
  | ⟨[], [], 0⟩ => some ()
  | _ => none
def f26.o0 (y : Bool) : VS := ⟨[(0, .bool y)], [], 0⟩
def f26.inR : VS → Option (Bool)
  | ⟨[(0, .bool y)], [], 0⟩ => some y
  | _ => none
noncomputable def f26.E (K : Nat) : Entry := genE 0 f26.inA (f26.F K) (dv1 f26.o0)
theorem f26.ok (K : Nat) : EntryOK Try.prog 26 (f26.E K) := gen_ok mix tys_ok (sp := tabSp [(33, (f33.E K)), (22, (rwE 2 (f22v1.E K))), (24, (rwE 1 (f24v1.E K))), (30, (viewE [(0, .u8)] (f30.E K)))]) (tab_ok ((tab_cons (f33.ok K) (tab_cons (rw_ok (f22v1.ok K)) (tab_cons (rw_ok (f24v1.ok K)) (tab_cons (view_ok (f30.ok K)) tab_nil)))))) Try.func26 (c := bodyOf Try.f26) (by kernel_rfl) (by kernel_rfl) (loops_none (lp := lpNone) (by kernel_rfl)) (av := f26.av) (bl := f26.bl) (inR := f26.inR) (out := f26.o0) (fuel := 400)
  (by intro s x h; unfold f26.inA at h; split at h <;> simp at h; rfl) (fun _ => Nat.le_of_ble_eq_true rfl)
  (by intro s y h; unfold f26.inR at h; split at h <;> simp at h <;> subst h <;> rfl) (fun _ _ _ => rfl) (fun _ => by kernel_rfl)
end Go.Proofs

namespace Go.Proofs
open Go.VM
abbrev f29.Ty0 := Nat × Nat × Int × Nat × List Int × Nat × List Int
abbrev f29.Ty1 := Nat × Nat × Nat × List Int × Nat × List Int
abbrev f29.Ty2 := Bool × Nat × List Int × Nat × List Int
abbrev f29.Ty3 := Nat × List Int × Nat × List Int
noncomputable def f29.c : Code := bodyOf Try.f29
def f29.s0t (_K : Nat) (rec : f29.Ty0 → Option ((f29.Ty2) ⊕ (f29.Ty3))) (t0 : Nat) (t1 : Nat) (t5 : Int) (b0_0 : Nat) (b0_1 : List Int) (b2_0 : Nat) (b2_1 : List Int) : Option ((f29.Ty2) ⊕ (f29.Ty3)) :=
  bif (decide (t5 < ((t0 : Nat) : Int))) then
    bif decide (0 ≤ t5 ∧ t5 < ((t0 : Nat) : Int)) then
      let v5 := 0 + (Int.toNat t5)
      bif Nat.blt v5 b0_0 then
        bif decide (0 ≤ t5 ∧ t5 < ((t1 : Nat) : Int)) then
          let v7 := 0 + (Int.toNat t5)
          bif Nat.blt v7 b2_0 then
            bif ((List.getD b0_1 v5 0) != (List.getD b2_1 v7 0)) then
              some (.inl (false, b0_0, b0_1, b2_0, b2_1))
            else
              rec (t0, t1, (IntKind.wrap .i64 (t5 + 1)), b0_0, b0_1, b2_0, b2_1)
          else
            none
        else
          none
      else
        none
    else
      none
  else
    some (.inr (b0_0, b0_1, b2_0, b2_1))
def f29.s0 (K : Nat) (rec : f29.Ty0 → Option ((f29.Ty2) ⊕ (f29.Ty3))) (x : f29.Ty0) : Option ((f29.Ty2) ⊕ (f29.Ty3)) := f29.s0t K rec x.1 x.2.1 x.2.2.1 x.2.2.2.1 x.2.2.2.2.1 x.2.2.2.2.2.1 x.2.2.2.2.2.2
noncomputable def f29.s0.b : Code := (findLoop 0 f29.c).getD .skip
def f29.s0.h : Hint := { lv := [0, 1, 5] }
def f29.s0.ho : Hint := { lv := [4] }
def f29.s0.shp (x : f29.Ty0) : VS := ⟨[(0, .vw true 0 0 x.1 1), (1, .vw true 2 0 x.2.1 3), (5, .int .i64 x.2.2.1)], [(0, ([.ints .u8 x.2.2.2.1 x.2.2.2.2.1], 0, .ro)), (2, ([.ints .u8 x.2.2.2.2.2.1 x.2.2.2.2.2.2], 0, .ro))], 4⟩
def f29.s0.inX : VS → Option (f29.Ty0)
  | ⟨[(0, .vw true 0 0 t0 1), (1, .vw true 2 0 t1 3), (5, .int .i64 t5)], [(0, ([.ints .u8 b0_0 b0_1], 0, .ro)), (2, ([.ints .u8 b2_0 b2_1], 0, .ro))], 4⟩ => some (t0, t1, t5, b0_0, b0_1, b2_0, b2_1)
  | _ => none
def f29.s0.o0 (y : f29.Ty2) : VS := ⟨[(4, .bool y.1)], [(0, ([.ints .u8 y.2.1 y.2.2.1], 0, .ro)), (2, ([.ints .u8 y.2.2.2.1 y.2.2.2.2], 0, .ro))], 4⟩
def f29.s0.o1 (y : f29.Ty3) : VS := ⟨[], [(0, ([.ints .u8 y.1 y.2.1], 0, .ro)), (2, ([.ints .u8 y.2.2.1 y.2.2.2], 0, .ro))], 4⟩
def f29.s0.des : ∀ α : Type, ((f29.Ty2) ⊕ (f29.Ty3)) → (Ex → VS → Option α) → Option α := (desA (des1 (.ret) f29.s0.o0) (des1 (.exit 0) f29.s0.o1))
def f29.s0.out : (f29.Ty2) ⊕ (f29.Ty3) → Ex × VS := (alt (fun y => (.ret, f29.s0.o0 y)) (fun y => (.exit 0, f29.s0.o1 y)))
theorem f29.s0.desOK : ∀ α y (k : Ex → VS → Option α), f29.s0.des α y k = k (f29.s0.out y).1 (f29.s0.out y).2 := (desA_ok (fun _ _ _ => rfl) (fun _ _ _ => rfl))
def f29.s0.inY : Ex → VS → Option ((f29.Ty2) ⊕ (f29.Ty3))
  | .ret, ⟨[(4, .bool t4)], [(0, ([.ints .u8 b0_0 b0_1], 0, .ro)), (2, ([.ints .u8 b2_0 b2_1], 0, .ro))], 4⟩ => some (.inl (t4, b0_0, b0_1, b2_0, b2_1))
  | .exit 0, ⟨[], [(0, ([.ints .u8 b0_0 b0_1], 0, .ro)), (2, ([.ints .u8 b2_0 b2_1], 0, .ro))], 4⟩ => some (.inr (b0_0, b0_1, b2_0, b2_1))
  | _, _ => none
def f29.lp (K : Nat) : Nat → Option (Hint × Summ) := tabLp [(0, f29.s0.h, summOf (iter (f29.s0 K) K) f29.s0.inX f29.s0.des)]
noncomputable def f29.tab (_K : Nat) : List (Nat × Entry) := []
theorem f29.tabOK (K : Nat) : SpecOK Try.prog (tabSp (f29.tab K)) := tab_ok ( tab_nil)
theorem f29.s0.eq (K : Nat) (rec : f29.Ty0 → Option ((f29.Ty2) ⊕ (f29.Ty3))) (x : f29.Ty0) : f29.s0 K rec x = roundL (getA tys) (tabSp (f29.tab K)) 26 4 (f29.lp K) 400 f29.s0.b f29.s0.h f29.s0.ho f29.s0.shp f29.s0.inX f29.s0.inY rec x := by kernel_rfl
theorem f29.s0.lok (K : Nat) : LoopsOK Try.prog 26 4 (f29.lp K) f29.s0.b := loops_ok (by
  have h : loopsIn (f29.lp K) f29.s0.b = [] := by kernel_rfl
  rw [h]; simp)
theorem f29.s0.ok (K : Nat) : SummOK Try.prog 26 4 (summOf (iter (f29.s0 K) K) f29.s0.inX f29.s0.des) f29.s0.b :=
  loop_ok mix tys_ok (f29.tabOK K) (h := f29.s0.h) (ho := f29.s0.ho) (shp := f29.s0.shp) (inX := f29.s0.inX) (des := f29.s0.des) (out := f29.s0.out) (inY := f29.s0.inY) (fuel := 400)
    (by intro st x h; unfold f29.s0.inX at h; split at h <;> simp at h; subst h; rfl)
    (by intro e st y h; unfold f29.s0.inY at h; split at h <;> simp at h <;> subst h <;> rfl)
    f29.s0.desOK (f29.s0.lok K) (f29.s0 K) (f29.s0.eq K) K
theorem f29.loops (K : Nat) : LoopsOK Try.prog 26 4 (f29.lp K) f29.c := loops_ok (by
  have h : loopsIn (f29.lp K) f29.c = [(0, f29.s0.b)] := by kernel_rfl
  rw [h]
  intro p hp
  simp only [List.mem_cons, List.not_mem_nil, or_false] at hp
  rcases hp with rfl
  · exact ⟨_, rfl, (f29.s0.ok K)⟩)
def f29.T (K : Nat) (a0 : Nat) (a1 : Nat) (m0_0 : Nat) (m0_1 : List Int) (m2_0 : Nat) (m2_1 : List Int) : Option (f29.Ty2) :=
  bif (((a0 : Nat) : Int) != ((a1 : Nat) : Int)) then
    some (false, m0_0, m0_1, m2_0, m2_1)
  else
    (iter (f29.s0 K) K (a0, a1, 0, m0_0, m0_1, m2_0, m2_1)).bind fun y10 =>
    alt (fun y11 =>
      some (y11.1, y11.2.1, y11.2.2.1, y11.2.2.2.1, y11.2.2.2.2)) (fun y12 =>
      some (true, y12.1, y12.2.1, y12.2.2.1, y12.2.2.2)) y10
def f29.F (K : Nat) (x : f29.Ty1) : Option (f29.Ty2) := f29.T K x.1 x.2.1 x.2.2.1 x.2.2.2.1 x.2.2.2.2.1 x.2.2.2.2.2
def f29.av (x : f29.Ty1) : List VV := [.vw true 0 0 x.1 1, .vw true 2 0 x.2.1 3]
def f29.bl (x : f29.Ty1) : List (Nat × Blk) := [(0, ([.ints .u8 x.2.2.1 x.2.2.2.1], 0, .ro)), (2, ([.ints .u8 x.2.2.2.2.1 x.2.2.2.2.2], 0, .ro))]
def f29.inA : VS → Option (f29.Ty1)
  | ⟨[(0, .vw true 0 0 a0 1), (1, .vw true 2 0 a1 3)], [(0, ([.ints .u8 m0_0 m0_1], 0, .ro)), (2, ([.ints .u8 m2_0 m2_1], 0, .ro))], 4⟩ => some (a0, a1, m0_0, m0_1, m2_0, m2_1)
  | _ => none
def f29.o0 (y : f29.Ty2) : VS := ⟨[(0, .bool y.1)], [(0, ([.ints .u8 y.2.1 y.2.2.1], 0, .ro)), (2, ([.ints .u8 y.2.2.2.1 y.2.2.2.2], 0, .ro))], 4⟩
def f29.des : ∀ α : Type, (f29.Ty2) → (VS → Option α) → Option α := (dv1 f29.o0)
def f29.out : f29.Ty2 → VS := f29.o0
def f29.inR : VS → Option (f29.Ty2)
  | ⟨[(0, .bool y)], [(0, ([.ints .u8 z0_0 z0_1], 0, .ro)), (2, ([.ints .u8 z2_0 z2_1], 0, .ro))], 4⟩ => some (y, z0_0, z0_1, z2_0, z2_1)
  | _ => none
noncomputable def f29.E (K : Nat) : Entry := genE 4 f29.inA (f29.F K) f29.des
theorem f29.eq (K : Nat) (x : f29.Ty1) : f29.F K x = xrun (getA tys) (tabSp (f29.tab K)) Try.f29.ntmps 4 (f29.lp K) 400 f29.c ⟨initL 0 (f29.av x), f29.bl x, 4⟩ (contF (getA tys) 4 Try.f29.results.toList f29.inR) := by kernel_rfl
theorem f29.ok (K : Nat) : EntryOK Try.prog 29 (f29.E K) :=
  gen_ok mix tys_ok (f29.tabOK K) Try.func29 (by kernel_rfl : Try.f29.body = some f29.c) (by kernel_rfl) (f29.loops K) (av := f29.av) (bl := f29.bl) (out := f29.out) (fuel := 400)
    (by intro s x h; unfold f29.inA at h; split at h <;> simp at h; subst h; rfl) (fun _ => Nat.le_of_ble_eq_true rfl)
    (by intro s y h; unfold f29.inR at h; split at h <;> simp at h <;> subst h <;> rfl) (fun _ _ _ => rfl) (f29.eq K)
end Go.Proofs

namespace Go.Proofs
open Go.VM
abbrev f28.Ty0 := Nat × Nat × Int × List Ent × List Ent
abbrev f28.Ty1 := Nat × Nat × List Ent × List Ent
abbrev f28.Ty2 := Bool × List Ent × List Ent
abbrev f28.Ty3 := List Ent × List Ent
noncomputable def f28.c : Code := bodyOf Try.f28
def f28.s0t (K : Nat) (rec : f28.Ty0 → Option ((f28.Ty2) ⊕ (f28.Ty3))) (t0 : Nat) (t1 : Nat) (t5 : Int) (b0 : List Ent) (b2 : List Ent) : Option ((f28.Ty2) ⊕ (f28.Ty3)) :=
  bif (decide (t5 < ((t0 : Nat) : Int))) then
    bif decide (0 ≤ t5 ∧ t5 < ((t0 : Nat) : Int)) then
      let v5 := 0 + (Int.toNat t5)
      bif Nat.blt v5 (List.length b0) then
        let v6 := (entAt b0 v5).1
        bif decide (0 ≤ t5 ∧ t5 < ((t1 : Nat) : Int)) then
          let v9 := 0 + (Int.toNat t5)
          bif Nat.blt v9 (List.length b2) then
            let v10 := (entAt b2 v9).1
            bif ((Nat.ble (0 + v6) ((entAt b0 v5).1) && true) && ((Nat.ble (0 + v10) ((entAt b2 v9).1) && true) && true)) then
              (f29.F K (v6, v10, v6, (subI ((entAt b0 v5).2.2) 0 v6), v10, (subI ((entAt b2 v9).2.2) 0 v10))).bind fun y13 =>
              bif !y13.1 then
                some (.inl (false, b0, b2))
              else
                rec (t0, t1, (IntKind.wrap .i64 (t5 + 1)), b0, b2)
            else
              none
          else
            none
        else
          none
      else
        none
    else
      none
  else
    some (.inr (b0, b2))
def f28.s0 (K : Nat) (rec : f28.Ty0 → Option ((f28.Ty2) ⊕ (f28.Ty3))) (x : f28.Ty0) : Option ((f28.Ty2) ⊕ (f28.Ty3)) := f28.s0t K rec x.1 x.2.1 x.2.2.1 x.2.2.2.1 x.2.2.2.2
noncomputable def f28.s0.b : Code := (findLoop 0 f28.c).getD .skip
def f28.s0.h : Hint := { lv := [0, 1, 5] }
def f28.s0.ho : Hint := { lv := [4] }
def f28.s0.shp (x : f28.Ty0) : VS := ⟨[(0, .vw true 0 0 x.1 1), (1, .vw true 2 0 x.2.1 3), (5, .int .i64 x.2.2.1)], [(0, ([], 0, .rr false 4 x.2.2.2.1)), (2, ([], 0, .rr false 5 x.2.2.2.2))], 6⟩
def f28.s0.inX : VS → Option (f28.Ty0)
  | ⟨[(0, .vw true 0 0 t0 1), (1, .vw true 2 0 t1 3), (5, .int .i64 t5)], [(0, ([], 0, .rr false 4 b0)), (2, ([], 0, .rr false 5 b2))], 6⟩ => some (t0, t1, t5, b0, b2)
  | _ => none
def f28.s0.o0 (y : f28.Ty2) : VS := ⟨[(4, .bool y.1)], [(0, ([], 0, .rr false 4 y.2.1)), (2, ([], 0, .rr false 5 y.2.2))], 6⟩
def f28.s0.o1 (y : f28.Ty3) : VS := ⟨[], [(0, ([], 0, .rr false 4 y.1)), (2, ([], 0, .rr false 5 y.2))], 6⟩
def f28.s0.des : ∀ α : Type, ((f28.Ty2) ⊕ (f28.Ty3)) → (Ex → VS → Option α) → Option α := (desA (des1 (.ret) f28.s0.o0) (des1 (.exit 0) f28.s0.o1))
def f28.s0.out : (f28.Ty2) ⊕ (f28.Ty3) → Ex × VS := (alt (fun y => (.ret, f28.s0.o0 y)) (fun y => (.exit 0, f28.s0.o1 y)))
theorem f28.s0.desOK : ∀ α y (k : Ex → VS → Option α), f28.s0.des α y k = k (f28.s0.out y).1 (f28.s0.out y).2 := (desA_ok (fun _ _ _ => rfl) (fun _ _ _ => rfl))
def f28.s0.inY : Ex → VS → Option ((f28.Ty2) ⊕ (f28.Ty3))
  | .ret, ⟨[(4, .bool t4)], [(0, ([], 0, .rr false 4 b0)), (2, ([], 0, .rr false 5 b2))], 6⟩ => some (.inl (t4, b0, b2))
  | .exit 0, ⟨[], [(0, ([], 0, .rr false 4 b0)), (2, ([], 0, .rr false 5 b2))], 6⟩ => some (.inr (b0, b2))
  | _, _ => none
def f28.lp (K : Nat) : Nat → Option (Hint × Summ) := tabLp [(0, f28.s0.h, summOf (iter (f28.s0 K) K) f28.s0.inX f28.s0.des)]
noncomputable def f28.tab (K : Nat) : List (Nat × Entry) := [(29, (viewE [(0, .u8), (1, .u8)] (f29.E K)))]
theorem f28.tabOK (K : Nat) : SpecOK Try.prog (tabSp (f28.tab K)) := tab_ok ((tab_cons (view_ok (f29.ok K)) tab_nil))
theorem f28.s0.eq (K : Nat) (rec : f28.Ty0 → Option ((f28.Ty2) ⊕ (f28.Ty3))) (x : f28.Ty0) : f28.s0 K rec x = roundL (getA tys) (tabSp (f28.tab K)) 27 6 (f28.lp K) 400 f28.s0.b f28.s0.h f28.s0.ho f28.s0.shp f28.s0.inX f28.s0.inY rec x := by kernel_rfl
theorem f28.s0.lok (K : Nat) : LoopsOK Try.prog 27 6 (f28.lp K) f28.s0.b := loops_ok (by
  have h : loopsIn (f28.lp K) f28.s0.b = [] := by kernel_rfl
  rw [h]; simp)
theorem f28.s0.ok (K : Nat) : SummOK Try.prog 27 6 (summOf (iter (f28.s0 K) K) f28.s0.inX f28.s0.des) f28.s0.b :=
  loop_ok mix tys_ok (f28.tabOK K) (h := f28.s0.h) (ho := f28.s0.ho) (shp := f28.s0.shp) (inX := f28.s0.inX) (des := f28.s0.des) (out := f28.s0.out) (inY := f28.s0.inY) (fuel := 400)
    (by intro st x h; unfold f28.s0.inX at h; split at h <;> simp at h; subst h; rfl)
    (by intro e st y h; unfold f28.s0.inY at h; split at h <;> simp at h <;> subst h <;> rfl)
    f28.s0.desOK (f28.s0.lok K) (f28.s0 K) (f28.s0.eq K) K
theorem f28.loops (K : Nat) : LoopsOK Try.prog 27 6 (f28.lp K) f28.c := loops_ok (by
  have h : loopsIn (f28.lp K) f28.c = [(0, f28.s0.b)] := by kernel_rfl
  rw [h]
  intro p hp
  simp only [List.mem_cons, List.not_mem_nil, or_false] at hp
  rcases hp with rfl
  · exact ⟨_, rfl, (f28.s0.ok K)⟩)
def f28.T (K : Nat) (a0 : Nat) (a1 : Nat) (m0 : List Ent) (m2 : List Ent) : Option (f28.Ty2) :=
  bif (((a0 : Nat) : Int) != ((a1 : Nat) : Int)) then
    some (false, m0, m2)
  else
    (iter (f28.s0 K) K (a0, a1, 0, m0, m2)).bind fun y15 =>
    alt (fun y16 =>
      some (y16.1, y16.2.1, y16.2.2)) (fun y17 =>
      some (true, y17.1, y17.2)) y15
def f28.F (K : Nat) (x : f28.Ty1) : Option (f28.Ty2) := f28.T K x.1 x.2.1 x.2.2.1 x.2.2.2
def f28.av (x : f28.Ty1) : List VV := [.vw true 0 0 x.1 1, .vw true 2 0 x.2.1 3]
def f28.bl (x : f28.Ty1) : List (Nat × Blk) := [(0, ([], 0, .rr false 4 x.2.2.1)), (2, ([], 0, .rr false 5 x.2.2.2))]
def f28.inA : VS → Option (f28.Ty1)
  | ⟨[(0, .vw true 0 0 a0 1), (1, .vw true 2 0 a1 3)], [(0, ([], 0, .rr false 4 m0)), (2, ([], 0, .rr false 5 m2))], 6⟩ => some (a0, a1, m0, m2)
  | _ => none
def f28.o0 (y : f28.Ty2) : VS := ⟨[(0, .bool y.1)], [(0, ([], 0, .rr false 4 y.2.1)), (2, ([], 0, .rr false 5 y.2.2))], 6⟩
def f28.des : ∀ α : Type, (f28.Ty2) → (VS → Option α) → Option α := (dv1 f28.o0)
def f28.out : f28.Ty2 → VS := f28.o0
def f28.inR : VS → Option (f28.Ty2)
  | ⟨[(0, .bool y)], [(0, ([], 0, .rr false 4 z0)), (2, ([], 0, .rr false 5 z2))], 6⟩ => some (y, z0, z2)
  | _ => none
noncomputable def f28.E (K : Nat) : Entry := genE 6 f28.inA (f28.F K) f28.des
theorem f28.eq (K : Nat) (x : f28.Ty1) : f28.F K x = xrun (getA tys) (tabSp (f28.tab K)) Try.f28.ntmps 6 (f28.lp K) 400 f28.c ⟨initL 0 (f28.av x), f28.bl x, 6⟩ (contF (getA tys) 6 Try.f28.results.toList f28.inR) := by kernel_rfl
theorem f28.ok (K : Nat) : EntryOK Try.prog 28 (f28.E K) :=
  gen_ok mix tys_ok (f28.tabOK K) Try.func28 (by kernel_rfl : Try.f28.body = some f28.c) (by kernel_rfl) (f28.loops K) (av := f28.av) (bl := f28.bl) (out := f28.out) (fuel := 400)
    (by intro s x h; unfold f28.inA at h; split at h <;> simp at h; subst h; rfl) (fun _ => Nat.le_of_ble_eq_true rfl)
    (by intro s y h; unfold f28.inR at h; split at h <;> simp at h <;> subst h <;> rfl) (fun _ _ _ => rfl) (f28.eq K)
end Go.Proofs

namespace Go.Proofs
open Go.VM
theorem f21.spec (K N : Nat) (name : ByteArray) (ll : List Ent) (hN : ll.length = N) (hb : ∀ e ∈ ll, e.1 ≤ 140737488355328) (hK : 1000 < K) : ∃ g, f21.F K (name, N, ll) = some (g, ll) ∧ (g = false → name.size ≤ 5000 ∧ N ≤ 200 ∧ Rs.tot ll ≤ 20000) := by
  simp only [f21.F, f21.T]
  by_cases h0 : name.size > 5000
  · exact ⟨true, by rw [decide_eq_true (show ((name.size : Nat) : Int) > 5000 by omega), cond_t], fun h => by cases h⟩
  rw [decide_eq_false (show ¬ ((name.size : Nat) : Int) > 5000 by omega), cond_f]
  by_cases h : N > 200
  · exact ⟨true, by rw [decide_eq_true (show ((N : Nat) : Int) > 200 by omega), cond_t], fun h => by cases h⟩
  · obtain ⟨z, h1, h2⟩ := f46.spec K N ll hN hb (by omega) (by omega)
    refine ⟨decide (z > 20000), ?_, fun h3 => ?_⟩
    · rw [decide_eq_false (show ¬ ((N : Nat) : Int) > 200 by omega), cond_f, show Nat.beq N (List.length ll) = true by rw [hN]; exact Nat.beq_refl N, cond_t, h1, bind_s]
    · have := h2 (by have := of_decide_eq_false h3; omega)
      have := of_decide_eq_false h3
      omega
theorem f26.holds : f26.F 100000 () = some true := by decide +kernel
theorem f29.spec (K a b : Nat) (l m : List Int) (hl : l.length = a) (hm : m.length = b) (ha : a ≤ 1000000000) (hK : a < K) : f29.F K (a, b, a, l, b, m) = some (decide (l = m), a, l, b, m) := by
  simp only [f29.F, f29.T]
  by_cases hab : a = b
  · subst hab
    rw [show (((a : Nat) : Int) != ((a : Nat) : Int)) = false from by simp, cond_f]
    obtain ⟨y, hy, hI⟩ := iter_inv (stp := f29.s0 K) (fun j x => ∃ i, i ≤ a ∧ j = a - i ∧ (∀ t, t < i → l.getD t 0 = m.getD t 0) ∧ x = (a, a, (i : Int), a, l, a, m))
      (fun y => y = if l = m then .inr (a, l, a, m) else .inl (false, a, l, a, m)) (by
      rintro j x ⟨i, hi, rfl, hs, rfl⟩
      by_cases h : i < a
      · by_cases h2 : l.getD i 0 = m.getD i 0
        · right
          refine ⟨_, a - (i + 1), by omega, ⟨i + 1, by omega, rfl, fun t ht => by rcases Nat.lt_succ_iff_lt_or_eq.1 ht with h3 | rfl; exact hs t h3; exact h2, rfl⟩, fun rec => ?_⟩
          simp only [f29.s0, f29.s0t]
          rw [decide_eq_true (show (i : Int) < ((a : Nat) : Int) by omega), cond_t, decide_eq_true (show (0 : Int) ≤ (i : Int) ∧ (i : Int) < ((a : Nat) : Int) by omega), cond_t, Int.toNat_natCast, Nat.zero_add, Rs.blt h, cond_t, cond_t, cond_t, h2, show (m.getD i 0 != m.getD i 0) = false from by simp, cond_f, wrap_i _ (by omega) (by omega)]
          rfl
        · left
          refine ⟨_, rfl, fun rec => ?_⟩
          simp only [f29.s0, f29.s0t]
          rw [decide_eq_true (show (i : Int) < ((a : Nat) : Int) by omega), cond_t, decide_eq_true (show (0 : Int) ≤ (i : Int) ∧ (i : Int) < ((a : Nat) : Int) by omega), cond_t, Int.toNat_natCast, Nat.zero_add, Rs.blt h, cond_t, cond_t, cond_t, show (l.getD i 0 != m.getD i 0) = true from by simpa using h2, cond_t, if_neg (fun e => h2 (by rw [e]))]
      · left
        have hia : i = a := by omega
        subst hia
        refine ⟨_, rfl, fun rec => ?_⟩
        simp only [f29.s0, f29.s0t]
        rw [decide_eq_false (show ¬ (i : Int) < ((i : Nat) : Int) by omega), cond_f, if_pos (list_getD (by omega) fun t ht => hs t (by omega))]) a _ ⟨0, Nat.zero_le _, rfl, fun t ht => absurd ht (Nat.not_lt_zero t), rfl⟩ K hK
    rw [show iter (f29.s0 K) K (a, a, 0, a, l, a, m) = _ from hI, bind_s, hy]
    by_cases h : l = m
    · rw [if_pos h, altr, decide_eq_true h]
    · rw [if_neg h, altl, decide_eq_false h]
  · rw [show (((a : Nat) : Int) != ((b : Nat) : Int)) = true from by simp; omega, cond_t, decide_eq_false (fun e => hab (by rw [← hl, ← hm, e]))]
theorem Rs.shs_next {ll : List Ent} {i : Nat} (h : i < ll.length) : (Rs.shs ll)[i]'(by simpa [Rs.shs] using h) = Rs.sh (entAt ll i) := by
  simp [Rs.shs, Rs.at_get h]
theorem f28.spec (K a b : Nat) (l m : List Ent) (hl : l.length = a) (hm : m.length = b) (ha : a ≤ 1000000000) (hb : ∀ e ∈ l, e.1 ≤ 1000000000 ∧ e.1 < K) (hK : a < K) : f28.F K (a, b, l, m) = some (decide (Rs.shs l = Rs.shs m), l, m) := by
  simp only [f28.F, f28.T]
  by_cases hab : a = b
  · subst hab
    rw [show (((a : Nat) : Int) != ((a : Nat) : Int)) = false from by simp, cond_f]
    obtain ⟨y, hy, hI⟩ := iter_inv (stp := f28.s0 K) (fun j x => ∃ i, i ≤ a ∧ j = a - i ∧ (∀ t, t < i → Rs.sh (entAt l t) = Rs.sh (entAt m t)) ∧ x = (a, a, (i : Int), l, m))
      (fun y => y = if Rs.shs l = Rs.shs m then .inr (l, m) else .inl (false, l, m)) (by
      rintro j x ⟨i, hi, rfl, hs, rfl⟩
      by_cases h : i < a
      · have hil : i < l.length := by omega
        have him : i < m.length := by omega
        obtain ⟨hb1, hb2⟩ := hb _ (Rs.at_mem hil)
        have h29 := f29.spec K (entAt l i).1 (entAt m i).1 (Rs.sh (entAt l i)) (Rs.sh (entAt m i)) (Rs.sh_length _) (Rs.sh_length _) hb1 hb2
        by_cases h2 : Rs.sh (entAt l i) = Rs.sh (entAt m i)
        · right
          refine ⟨_, a - (i + 1), by omega, ⟨i + 1, by omega, rfl, fun t ht => by rcases Nat.lt_succ_iff_lt_or_eq.1 ht with h3 | rfl; exact hs t h3; exact h2, rfl⟩, fun rec => ?_⟩
          simp only [f28.s0, f28.s0t]
          rw [decide_eq_true (show (i : Int) < ((a : Nat) : Int) by omega), cond_t, decide_eq_true (show (0 : Int) ≤ (i : Int) ∧ (i : Int) < ((a : Nat) : Int) by omega), cond_t, Int.toNat_natCast, Nat.zero_add, Rs.blt hil, cond_t, cond_t, Rs.blt him, cond_t, Nat.zero_add, ble_true (Nat.le_refl _), Nat.zero_add, ble_true (Nat.le_refl _), Bool.and_self, Bool.and_self, Bool.and_self, cond_t]
          rw [show f29.F K ((entAt l i).1, (entAt m i).1, (entAt l i).1, subI (entAt l i).2.2 0 (entAt l i).1, (entAt m i).1, subI (entAt m i).2.2 0 (entAt m i).1) = _ from h29, bind_s]
          simp only []
          rw [decide_eq_true h2, Bool.not_true, cond_f, wrap_i _ (by omega) (by omega)]
          rfl
        · left
          refine ⟨_, rfl, fun rec => ?_⟩
          simp only [f28.s0, f28.s0t]
          rw [decide_eq_true (show (i : Int) < ((a : Nat) : Int) by omega), cond_t, decide_eq_true (show (0 : Int) ≤ (i : Int) ∧ (i : Int) < ((a : Nat) : Int) by omega), cond_t, Int.toNat_natCast, Nat.zero_add, Rs.blt hil, cond_t, cond_t, Rs.blt him, cond_t, Nat.zero_add, ble_true (Nat.le_refl _), Nat.zero_add, ble_true (Nat.le_refl _), Bool.and_self, Bool.and_self, Bool.and_self, cond_t]
          rw [show f29.F K ((entAt l i).1, (entAt m i).1, (entAt l i).1, subI (entAt l i).2.2 0 (entAt l i).1, (entAt m i).1, subI (entAt m i).2.2 0 (entAt m i).1) = _ from h29, bind_s]
          simp only []
          rw [decide_eq_false h2, Bool.not_false, cond_t, if_neg (fun e => h2 (by rw [← Rs.shs_next hil, ← Rs.shs_next him]; simp only [e]))]
      · left
        have hia : i = a := by omega
        subst hia
        refine ⟨_, rfl, fun rec => ?_⟩
        simp only [f28.s0, f28.s0t]
        rw [decide_eq_false (show ¬ (i : Int) < ((i : Nat) : Int) by omega), cond_f, if_pos (List.ext_getElem (by simp [Rs.shs]; omega) fun t h1 h2 => by
          rw [Rs.shs_next (by simpa [Rs.shs] using h1), Rs.shs_next (by simpa [Rs.shs] using h2)]
          exact hs t (by simp [Rs.shs] at h1; omega))]) a _ ⟨0, Nat.zero_le _, rfl, fun t ht => absurd ht (Nat.not_lt_zero t), rfl⟩ K hK
    rw [show iter (f28.s0 K) K (a, a, 0, l, m) = _ from hI, bind_s, hy]
    by_cases h : Rs.shs l = Rs.shs m
    · rw [if_pos h, altr, decide_eq_true h]
    · rw [if_neg h, altl, decide_eq_false h]
  · rw [show (((a : Nat) : Int) != ((b : Nat) : Int)) = true from by simp; omega, cond_t, decide_eq_false (fun e => hab (by have := congrArg List.length e; simp [Rs.shs] at this; omega))]
end Go.Proofs

namespace Go.Proofs
open Go.VM
abbrev f27.Ty0 := Nat × Nat × Int × List Ent × Nat × List Int
abbrev f27.Ty1 := Nat × Nat × List Ent × Nat × List Int
abbrev f27.Ty2 := Nat × List Ent × Nat × List Int
abbrev f27.Ty3 := ByteArray × Nat × List Ent
noncomputable def f27.c : Code := bodyOf Try.f27
def f27.s0t (K : Nat) (rec : f27.Ty0 → Option (f27.Ty2)) (t1 : Nat) (t5 : Nat) (t6 : Int) (b0 : List Ent) (b3_0 : Nat) (b3_1 : List Int) : Option (f27.Ty2) :=
  bif (decide (t6 < ((t1 : Nat) : Int))) then
    bif decide (0 ≤ t6 ∧ t6 < ((t1 : Nat) : Int)) then
      let v15 := 0 + (Int.toNat t6)
      bif Nat.blt v15 (List.length b0) then
        let v16 := (entAt b0 v15).1
        bif ((Nat.ble (0 + t5) b3_0 && true) && ((Nat.ble (0 + v16) ((entAt b0 v15).1) && true) && true)) then
          (f58.F K (t5, v16, t5, (subI b3_1 0 t5), v16, (subI ((entAt b0 v15).2.2) 0 v16))).bind fun y19 =>
          rec (t1, y19.1, (IntKind.wrap .i64 (t6 + 1)), b0, y19.2.2.2.2.2.1, y19.2.2.2.2.2.2)
        else
          none
      else
        none
    else
      none
  else
    some (t5, b0, b3_0, b3_1)
def f27.s0 (K : Nat) (rec : f27.Ty0 → Option (f27.Ty2)) (x : f27.Ty0) : Option (f27.Ty2) := f27.s0t K rec x.1 x.2.1 x.2.2.1 x.2.2.2.1 x.2.2.2.2.1 x.2.2.2.2.2
noncomputable def f27.s0.b : Code := (findLoop 0 f27.c).getD .skip
def f27.s0.h : Hint := { lv := [1, 5, 6], peel := true }
def f27.s0.ho : Hint := { lv := [5] }
def f27.s0.shp (x : f27.Ty0) : VS := ⟨[(1, .vw true 0 0 x.1 1), (5, .vw false 3 0 x.2.1 4), (6, .int .i64 x.2.2.1)], [(0, ([], 0, .rr false 2 x.2.2.2.1)), (3, ([.ints .u8 x.2.2.2.2.1 x.2.2.2.2.2], 5, .vec 5))], 6⟩
def f27.s0.inX : VS → Option (f27.Ty0)
  | ⟨[(1, .vw true 0 0 t1 1), (5, .vw false 3 0 t5 4), (6, .int .i64 t6)], [(0, ([], 0, .rr false 2 b0)), (3, ([.ints .u8 b3_0 b3_1], 5, .vec 5))], 6⟩ => some (t1, t5, t6, b0, b3_0, b3_1)
  | _ => none
def f27.s0.o0 (y : f27.Ty2) : VS := ⟨[(5, .vw false 3 0 y.1 4)], [(0, ([], 0, .rr false 2 y.2.1)), (3, ([.ints .u8 y.2.2.1 y.2.2.2], 5, .vec 5))], 6⟩
def f27.s0.des : ∀ α : Type, (f27.Ty2) → (Ex → VS → Option α) → Option α := (des1 (.exit 0) f27.s0.o0)
def f27.s0.out : f27.Ty2 → Ex × VS := (fun y => (.exit 0, f27.s0.o0 y))
theorem f27.s0.desOK : ∀ α y (k : Ex → VS → Option α), f27.s0.des α y k = k (f27.s0.out y).1 (f27.s0.out y).2 := (fun _ _ _ => rfl)
def f27.s0.inY : Ex → VS → Option (f27.Ty2)
  | .exit 0, ⟨[(5, .vw false 3 0 t5 4)], [(0, ([], 0, .rr false 2 b0)), (3, ([.ints .u8 b3_0 b3_1], 5, .vec 5))], 6⟩ => some (t5, b0, b3_0, b3_1)
  | _, _ => none
def f27.lp (K : Nat) : Nat → Option (Hint × Summ) := tabLp [(0, f27.s0.h, summOf (iter (f27.s0 K) K) f27.s0.inX f27.s0.des)]
noncomputable def f27.tab (K : Nat) : List (Nat × Entry) := [(58, (viewE [(0, .u8), (1, .u8)] (f58.E K))), (59, (viewE [(0, .u8)] (f59.E K)))]
theorem f27.tabOK (K : Nat) : SpecOK Try.prog (tabSp (f27.tab K)) := tab_ok ((tab_cons (view_ok (f58.ok K)) (tab_cons (view_ok (f59.ok K)) tab_nil)))
theorem f27.s0.eq (K : Nat) (rec : f27.Ty0 → Option (f27.Ty2)) (x : f27.Ty0) : f27.s0 K rec x = roundL (getA tys) (tabSp (f27.tab K)) 27 3 (f27.lp K) 400 f27.s0.b f27.s0.h f27.s0.ho f27.s0.shp f27.s0.inX f27.s0.inY rec x := by kernel_rfl
theorem f27.s0.lok (K : Nat) : LoopsOK Try.prog 27 3 (f27.lp K) f27.s0.b := loops_ok (by
  have h : loopsIn (f27.lp K) f27.s0.b = [] := by kernel_rfl
  rw [h]; simp)
theorem f27.s0.ok (K : Nat) : SummOK Try.prog 27 3 (summOf (iter (f27.s0 K) K) f27.s0.inX f27.s0.des) f27.s0.b :=
  loop_ok mix tys_ok (f27.tabOK K) (h := f27.s0.h) (ho := f27.s0.ho) (shp := f27.s0.shp) (inX := f27.s0.inX) (des := f27.s0.des) (out := f27.s0.out) (inY := f27.s0.inY) (fuel := 400)
    (by intro st x h; unfold f27.s0.inX at h; split at h <;> simp at h; subst h; rfl)
    (by intro e st y h; unfold f27.s0.inY at h; split at h <;> simp at h <;> subst h <;> rfl)
    f27.s0.desOK (f27.s0.lok K) (f27.s0 K) (f27.s0.eq K) K
theorem f27.loops (K : Nat) : LoopsOK Try.prog 27 3 (f27.lp K) f27.c := loops_ok (by
  have h : loopsIn (f27.lp K) f27.c = [(0, f27.s0.b)] := by kernel_rfl
  rw [h]
  intro p hp
  simp only [List.mem_cons, List.not_mem_nil, or_false] at hp
  rcases hp with rfl
  · exact ⟨_, rfl, (f27.s0.ok K)⟩)
def f27.T (K : Nat) (a0 : ByteArray) (a1 : Nat) (m0 : List Ent) : Option ((f27.Ty2) ⊕ (f27.Ty1)) :=
  let v1 := ByteArray.size a0
  bif ((Nat.ble (0 + v1) (ByteArray.size a0) && true) && true) then
    (f58.F K (0, v1, 0, [], v1, (subI (strL a0) 0 v1))).bind fun y3 =>
    bif ((Nat.ble (0 + y3.1) y3.2.2.2.2.2.1 && true) && true) then
      (f59.F K (y3.1, (IntKind.wrap .u64 ((a1 : Nat) : Int)), 4, y3.1, (subI y3.2.2.2.2.2.2 0 y3.1))).bind fun y6 =>
      bif (decide (0 < ((a1 : Nat) : Int))) then
        bif decide ((0 : Int) ≤ 0 ∧ 0 < ((a1 : Nat) : Int)) then
          bif Nat.blt 0 (List.length m0) then
            let v9 := (entAt m0 0).1
            bif ((Nat.ble (0 + y6.1) y6.2.2.2.2.1 && (Nat.ble y6.1 y6.2.1)) && ((Nat.ble (0 + v9) ((entAt m0 0).1) && true) && true)) then
              (f58.F K (y6.1, v9, y6.1, (subI y6.2.2.2.2.2 0 y6.1), v9, (subI ((entAt m0 0).2.2) 0 v9))).bind fun y12 =>
              (iter (f27.s0 K) K (a1, y12.1, 1, m0, y12.2.2.2.2.2.1, y12.2.2.2.2.2.2)).bind fun y21 =>
              some (.inl (y21.1, y21.2.1, y21.2.2.1, y21.2.2.2))
            else
              none
          else
            none
        else
          none
      else
        some (.inr (y6.1, y6.2.1, m0, y6.2.2.2.2.1, y6.2.2.2.2.2))
    else
      none
  else
    none
def f27.F (K : Nat) (x : f27.Ty3) : Option ((f27.Ty2) ⊕ (f27.Ty1)) := f27.T K x.1 x.2.1 x.2.2
def f27.av (x : f27.Ty3) : List VV := [.str x.1, .vw true 0 0 x.2.1 1]
def f27.bl (x : f27.Ty3) : List (Nat × Blk) := [(0, ([], 0, .rr false 2 x.2.2))]
def f27.inA : VS → Option (f27.Ty3)
  | ⟨[(0, .str a0), (1, .vw true 0 0 a1 1)], [(0, ([], 0, .rr false 2 m0))], 3⟩ => some (a0, a1, m0)
  | _ => none
def f27.o0 (y : f27.Ty2) : VS := ⟨[(0, .vw false 3 0 y.1 4)], [(0, ([], 0, .rr false 2 y.2.1)), (3, ([.ints .u8 y.2.2.1 y.2.2.2], 5, .vec 5))], 6⟩
def f27.o1 (y : f27.Ty1) : VS := ⟨[(0, .sl 3 0 y.1 y.2.1)], [(0, ([], 0, .rr false 2 y.2.2.1)), (3, ([.ints .u8 y.2.2.2.1 y.2.2.2.2], 5, .norm))], 4⟩
def f27.des : ∀ α : Type, ((f27.Ty2) ⊕ (f27.Ty1)) → (VS → Option α) → Option α := (dvA (dv1 f27.o0) (dv1 f27.o1))
def f27.out : (f27.Ty2) ⊕ (f27.Ty1) → VS := (alt f27.o0 f27.o1)
def f27.inR : VS → Option ((f27.Ty2) ⊕ (f27.Ty1))
  | ⟨[(0, .vw false 3 0 y 4)], [(0, ([], 0, .rr false 2 z0)), (3, ([.ints .u8 z3_0 z3_1], 5, .vec 5))], 6⟩ => some (.inl (y, z0, z3_0, z3_1))
  | ⟨[(0, .sl 3 0 y_0 y_1)], [(0, ([], 0, .rr false 2 z0)), (3, ([.ints .u8 z3_0 z3_1], 5, .norm))], 4⟩ => some (.inr (y_0, y_1, z0, z3_0, z3_1))
  | _ => none
noncomputable def f27.E (K : Nat) : Entry := genE 3 f27.inA (f27.F K) f27.des
theorem f27.eq (K : Nat) (x : f27.Ty3) : f27.F K x = xrun (getA tys) (tabSp (f27.tab K)) Try.f27.ntmps 3 (f27.lp K) 400 f27.c ⟨initL 0 (f27.av x), f27.bl x, 3⟩ (contF (getA tys) 3 Try.f27.results.toList f27.inR) := by kernel_rfl
theorem f27.ok (K : Nat) : EntryOK Try.prog 27 (f27.E K) :=
  gen_ok mix tys_ok (f27.tabOK K) Try.func27 (by kernel_rfl : Try.f27.body = some f27.c) (by kernel_rfl) (f27.loops K) (av := f27.av) (bl := f27.bl) (out := f27.out) (fuel := 400)
    (by intro s x h; unfold f27.inA at h; split at h <;> simp at h; subst h; rfl) (fun _ => Nat.le_of_ble_eq_true rfl)
    (by intro s y h; unfold f27.inR at h; split at h <;> simp at h <;> subst h <;> rfl) (dvA_ok (fun _ _ _ => rfl) (fun _ _ _ => rfl)) (f27.eq K)
end Go.Proofs

namespace Go.Proofs
open Go.VM
abbrev f6.Ty0 := ByteArray × ByteArray × Nat × Nat × List Ent × List Ent
abbrev f6.Ty1 := Bool × List Ent × List Ent
def f6.T (K : Nat) (a0_0 : ByteArray) (a0_1 : ByteArray) (a1 : Nat) (a2 : Nat) (m0 : List Ent) (m2 : List Ent) : Option (f6.Ty1) :=
  (f26.F K ()).bind fun y1 =>
  bif !y1 then
    (f26.F K ()).bind fun y2 =>
    some (y2, m0, m2)
  else
    bif Nat.beq a1 (List.length m0) then
      (f21.F K (a0_0, a1, m0)).bind fun y3 =>
      bif y3.1 then
        (f26.F K ()).bind fun y4 =>
        some (y4, m0, m2)
      else
        bif Nat.beq a2 (List.length m2) then
          (f21.F K (a0_1, a2, m2)).bind fun y5 =>
          bif y5.1 then
            (f26.F K ()).bind fun y6 =>
            some (y6, m0, m2)
          else
            bif Nat.beq a1 (List.length m0) then
              (f27.F K (a0_0, a1, m0)).bind fun y7 =>
              alt (fun y8 =>
                bif Nat.beq a2 (List.length m2) then
                  (f27.F K (a0_1, a2, m2)).bind fun y10 =>
                  alt (fun y11 =>
                    bif (strEq a0_0 a0_1) then
                      bif Nat.beq a1 (List.length m0) then
                        bif Nat.beq a2 (List.length m2) then
                          (f28.F K (a1, a2, m0, m2)).bind fun y14 =>
                          bif Nat.beq a1 (List.length m0) then
                            (f24v1.F K (a0_0, a1, m0)).bind fun y15 =>
                            bif ((Nat.ble (0 + y8.1) y8.2.2.1 && true) && ((Nat.ble (0 + y11.1) y11.2.2.1 && true) && true)) then
                              (f29.F K (y8.1, y11.1, y8.1, (subI y8.2.2.2 0 y8.1), y11.1, (subI y11.2.2.2 0 y11.1))).bind fun y16 =>
                              bif (y16.1 == y14.1) then
                                bif ((Nat.ble (0 + y8.1) y8.2.2.1 && true) && true) then
                                  (f30.F K (y8.1, y8.1, (subI y8.2.2.2 0 y8.1))).bind fun y18 =>
                                  bif (eqL 32 y15.1 y18.1 && true) then
                                    bif !y14.1 then
                                      some (true, m0, m2)
                                    else
                                      bif Nat.beq a2 (List.length m2) then
                                        (f24v1.F K (a0_1, a2, m2)).bind fun y20 =>
                                        some ((eqL 32 y15.1 y20.1 && true), m0, m2)
                                      else
                                        none
                                  else
                                    some (false, m0, m2)
                                else
                                  none
                              else
                                some (false, m0, m2)
                            else
                              none
                          else
                            none
                        else
                          none
                      else
                        none
                    else
                      bif Nat.beq a1 (List.length m0) then
                        (f24v1.F K (a0_0, a1, m0)).bind fun y22 =>
                        bif ((Nat.ble (0 + y8.1) y8.2.2.1 && true) && ((Nat.ble (0 + y11.1) y11.2.2.1 && true) && true)) then
                          (f29.F K (y8.1, y11.1, y8.1, (subI y8.2.2.2 0 y8.1), y11.1, (subI y11.2.2.2 0 y11.1))).bind fun y23 =>
                          bif (y23.1 == false) then
                            bif ((Nat.ble (0 + y8.1) y8.2.2.1 && true) && true) then
                              (f30.F K (y8.1, y8.1, (subI y8.2.2.2 0 y8.1))).bind fun y25 =>
                              bif (eqL 32 y22.1 y25.1 && true) then
                                some (true, m0, m2)
                              else
                                some (false, m0, m2)
                            else
                              none
                          else
                            some (false, m0, m2)
                        else
                          none
                      else
                        none) (fun y12 =>
                    bif (strEq a0_0 a0_1) then
                      bif Nat.beq a1 (List.length m0) then
                        bif Nat.beq a2 (List.length m2) then
                          (f28.F K (a1, a2, m0, m2)).bind fun y28 =>
                          bif Nat.beq a1 (List.length m0) then
                            (f24v1.F K (a0_0, a1, m0)).bind fun y29 =>
                            bif ((Nat.ble (0 + y8.1) y8.2.2.1 && true) && ((Nat.ble (0 + y12.1) y12.2.2.2.1 && (Nat.ble y12.1 y12.2.1)) && true)) then
                              (f29.F K (y8.1, y12.1, y8.1, (subI y8.2.2.2 0 y8.1), y12.1, (subI y12.2.2.2.2 0 y12.1))).bind fun y30 =>
                              bif (y30.1 == y28.1) then
                                bif ((Nat.ble (0 + y8.1) y8.2.2.1 && true) && true) then
                                  (f30.F K (y8.1, y8.1, (subI y8.2.2.2 0 y8.1))).bind fun y32 =>
                                  bif (eqL 32 y29.1 y32.1 && true) then
                                    bif !y28.1 then
                                      some (true, m0, m2)
                                    else
                                      bif Nat.beq a2 (List.length m2) then
                                        (f24v1.F K (a0_1, a2, m2)).bind fun y34 =>
                                        some ((eqL 32 y29.1 y34.1 && true), m0, m2)
                                      else
                                        none
                                  else
                                    some (false, m0, m2)
                                else
                                  none
                              else
                                some (false, m0, m2)
                            else
                              none
                          else
                            none
                        else
                          none
                      else
                        none
                    else
                      bif Nat.beq a1 (List.length m0) then
                        (f24v1.F K (a0_0, a1, m0)).bind fun y36 =>
                        bif ((Nat.ble (0 + y8.1) y8.2.2.1 && true) && ((Nat.ble (0 + y12.1) y12.2.2.2.1 && (Nat.ble y12.1 y12.2.1)) && true)) then
                          (f29.F K (y8.1, y12.1, y8.1, (subI y8.2.2.2 0 y8.1), y12.1, (subI y12.2.2.2.2 0 y12.1))).bind fun y37 =>
                          bif (y37.1 == false) then
                            bif ((Nat.ble (0 + y8.1) y8.2.2.1 && true) && true) then
                              (f30.F K (y8.1, y8.1, (subI y8.2.2.2 0 y8.1))).bind fun y39 =>
                              bif (eqL 32 y36.1 y39.1 && true) then
                                some (true, m0, m2)
                              else
                                some (false, m0, m2)
                            else
                              none
                          else
                            some (false, m0, m2)
                        else
                          none
                      else
                        none) y10
                else
                  none) (fun y9 =>
                bif Nat.beq a2 (List.length m2) then
                  (f27.F K (a0_1, a2, m2)).bind fun y41 =>
                  alt (fun y42 =>
                    bif (strEq a0_0 a0_1) then
                      bif Nat.beq a1 (List.length m0) then
                        bif Nat.beq a2 (List.length m2) then
                          (f28.F K (a1, a2, m0, m2)).bind fun y45 =>
                          bif Nat.beq a1 (List.length m0) then
                            (f24v1.F K (a0_0, a1, m0)).bind fun y46 =>
                            bif ((Nat.ble (0 + y9.1) y9.2.2.2.1 && (Nat.ble y9.1 y9.2.1)) && ((Nat.ble (0 + y42.1) y42.2.2.1 && true) && true)) then
                              (f29.F K (y9.1, y42.1, y9.1, (subI y9.2.2.2.2 0 y9.1), y42.1, (subI y42.2.2.2 0 y42.1))).bind fun y47 =>
                              bif (y47.1 == y45.1) then
                                bif ((Nat.ble (0 + y9.1) y9.2.2.2.1 && (Nat.ble y9.1 y9.2.1)) && true) then
                                  (f30.F K (y9.1, y9.1, (subI y9.2.2.2.2 0 y9.1))).bind fun y49 =>
                                  bif (eqL 32 y46.1 y49.1 && true) then
                                    bif !y45.1 then
                                      some (true, m0, m2)
                                    else
                                      bif Nat.beq a2 (List.length m2) then
                                        (f24v1.F K (a0_1, a2, m2)).bind fun y51 =>
                                        some ((eqL 32 y46.1 y51.1 && true), m0, m2)
                                      else
                                        none
                                  else
                                    some (false, m0, m2)
                                else
                                  none
                              else
                                some (false, m0, m2)
                            else
                              none
                          else
                            none
                        else
                          none
                      else
                        none
                    else
                      bif Nat.beq a1 (List.length m0) then
                        (f24v1.F K (a0_0, a1, m0)).bind fun y53 =>
                        bif ((Nat.ble (0 + y9.1) y9.2.2.2.1 && (Nat.ble y9.1 y9.2.1)) && ((Nat.ble (0 + y42.1) y42.2.2.1 && true) && true)) then
                          (f29.F K (y9.1, y42.1, y9.1, (subI y9.2.2.2.2 0 y9.1), y42.1, (subI y42.2.2.2 0 y42.1))).bind fun y54 =>
                          bif (y54.1 == false) then
                            bif ((Nat.ble (0 + y9.1) y9.2.2.2.1 && (Nat.ble y9.1 y9.2.1)) && true) then
                              (f30.F K (y9.1, y9.1, (subI y9.2.2.2.2 0 y9.1))).bind fun y56 =>
                              bif (eqL 32 y53.1 y56.1 && true) then
                                some (true, m0, m2)
                              else
                                some (false, m0, m2)
                            else
                              none
                          else
                            some (false, m0, m2)
                        else
                          none
                      else
                        none) (fun y43 =>
                    bif (strEq a0_0 a0_1) then
                      bif Nat.beq a1 (List.length m0) then
                        bif Nat.beq a2 (List.length m2) then
                          (f28.F K (a1, a2, m0, m2)).bind fun y59 =>
                          bif Nat.beq a1 (List.length m0) then
                            (f24v1.F K (a0_0, a1, m0)).bind fun y60 =>
                            bif ((Nat.ble (0 + y9.1) y9.2.2.2.1 && (Nat.ble y9.1 y9.2.1)) && ((Nat.ble (0 + y43.1) y43.2.2.2.1 && (Nat.ble y43.1 y43.2.1)) && true)) then
                              (f29.F K (y9.1, y43.1, y9.1, (subI y9.2.2.2.2 0 y9.1), y43.1, (subI y43.2.2.2.2 0 y43.1))).bind fun y61 =>
                              bif (y61.1 == y59.1) then
                                bif ((Nat.ble (0 + y9.1) y9.2.2.2.1 && (Nat.ble y9.1 y9.2.1)) && true) then
                                  (f30.F K (y9.1, y9.1, (subI y9.2.2.2.2 0 y9.1))).bind fun y63 =>
                                  bif (eqL 32 y60.1 y63.1 && true) then
                                    bif !y59.1 then
                                      some (true, m0, m2)
                                    else
                                      bif Nat.beq a2 (List.length m2) then
                                        (f24v1.F K (a0_1, a2, m2)).bind fun y65 =>
                                        some ((eqL 32 y60.1 y65.1 && true), m0, m2)
                                      else
                                        none
                                  else
                                    some (false, m0, m2)
                                else
                                  none
                              else
                                some (false, m0, m2)
                            else
                              none
                          else
                            none
                        else
                          none
                      else
                        none
                    else
                      bif Nat.beq a1 (List.length m0) then
                        (f24v1.F K (a0_0, a1, m0)).bind fun y67 =>
                        bif ((Nat.ble (0 + y9.1) y9.2.2.2.1 && (Nat.ble y9.1 y9.2.1)) && ((Nat.ble (0 + y43.1) y43.2.2.2.1 && (Nat.ble y43.1 y43.2.1)) && true)) then
                          (f29.F K (y9.1, y43.1, y9.1, (subI y9.2.2.2.2 0 y9.1), y43.1, (subI y43.2.2.2.2 0 y43.1))).bind fun y68 =>
                          bif (y68.1 == false) then
                            bif ((Nat.ble (0 + y9.1) y9.2.2.2.1 && (Nat.ble y9.1 y9.2.1)) && true) then
                              (f30.F K (y9.1, y9.1, (subI y9.2.2.2.2 0 y9.1))).bind fun y70 =>
                              bif (eqL 32 y67.1 y70.1 && true) then
                                some (true, m0, m2)
                              else
                                some (false, m0, m2)
                            else
                              none
                          else
                            some (false, m0, m2)
                        else
                          none
                      else
                        none) y41
                else
                  none) y7
            else
              none
        else
          none
    else
      none
def f6.F (K : Nat) (x : f6.Ty0) : Option (f6.Ty1) := f6.T K x.1 x.2.1 x.2.2.1 x.2.2.2.1 x.2.2.2.2.1 x.2.2.2.2.2
def f6.av (x : f6.Ty0) : List VV := [.agg [.str x.1, .str x.2.1], .vw true 0 0 x.2.2.1 1, .vw true 2 0 x.2.2.2.1 3]
def f6.bl (x : f6.Ty0) : List (Nat × Blk) := [(0, ([], 0, .rr false 4 x.2.2.2.2.1)), (2, ([], 0, .rr false 5 x.2.2.2.2.2))]
def f6.inA : VS → Option (f6.Ty0)
  | ⟨[(0, .agg [.str a0_0, .str a0_1]), (1, .vw true 0 0 a1 1), (2, .vw true 2 0 a2 3)], [(0, ([], 0, .rr false 4 m0)), (2, ([], 0, .rr false 5 m2))], 6⟩ => some (a0_0, a0_1, a1, a2, m0, m2)
  | _ => none
def f6.o0 (y : f6.Ty1) : VS := ⟨[(0, .bool y.1)], [(0, ([], 0, .rr false 4 y.2.1)), (2, ([], 0, .rr false 5 y.2.2))], 6⟩
def f6.inR : VS → Option (f6.Ty1)
  | ⟨[(0, .bool y)], [(0, ([], 0, .rr false 4 z0)), (2, ([], 0, .rr false 5 z2))], 6⟩ => some (y, z0, z2)
  | _ => none
noncomputable def f6.E (K : Nat) : Entry := genE 6 f6.inA (f6.F K) (dv1 f6.o0)
theorem f6.ok (K : Nat) : EntryOK Try.prog 6 (f6.E K) := gen_ok mix tys_ok (sp := tabSp [(26, (f26.E K)), (21, (rwE 1 (f21.E K))), (27, (rwE 1 (f27.E K))), (28, (rwE 0 (rwE 1 (f28.E K)))), (24, (rwE 1 (f24v1.E K))), (29, (viewE [(0, .u8), (1, .u8)] (f29.E K))), (30, (viewE [(0, .u8)] (f30.E K)))]) (tab_ok ((tab_cons (f26.ok K) (tab_cons (rw_ok (f21.ok K)) (tab_cons (rw_ok (f27.ok K)) (tab_cons (rw_ok (rw_ok (f28.ok K))) (tab_cons (rw_ok (f24v1.ok K)) (tab_cons (view_ok (f29.ok K)) (tab_cons (view_ok (f30.ok K)) tab_nil))))))))) Try.func6 (c := bodyOf Try.f6) (by kernel_rfl) (by kernel_rfl) (loops_none (lp := lpNone) (by kernel_rfl)) (av := f6.av) (bl := f6.bl) (inR := f6.inR) (out := f6.o0) (fuel := 400)
  (by intro s x h; unfold f6.inA at h; split at h <;> simp at h; subst h; rfl) (fun _ => Nat.le_of_ble_eq_true rfl)
  (by intro s y h; unfold f6.inR at h; split at h <;> simp at h <;> subst h <;> rfl) (fun _ _ _ => rfl) (fun _ => by kernel_rfl)
end Go.Proofs

namespace Go.Proofs
open Go.VM
theorem be_inj {a b : Nat} (ha : a < 4294967296) (hb : b < 4294967296) (h : be 4 a = be 4 b) : a = b := by
  have := congrArg tv h
  rw [tv_be, tv_be] at this
  omega
theorem frame_inj {a b x y : List Int} (ha : a.length < 4294967296) (hb : b.length < 4294967296) (h : Sh.frame a ++ x = Sh.frame b ++ y) : a = b ∧ x = y := by
  simp only [Sh.frame, List.append_assoc] at h
  obtain ⟨h1, h2⟩ := List.append_inj h (by rw [be_length, be_length])
  exact List.append_inj h2 (be_inj ha hb h1)
theorem frames_inj : ∀ {l m : List (List Int)}, (∀ p ∈ l, p.length < 4294967296) → (∀ p ∈ m, p.length < 4294967296) → l.length = m.length → l.flatMap Sh.frame = m.flatMap Sh.frame → l = m
  | [], [], _, _, _, _ => rfl
  | a :: l, b :: m, hl, hm, hn, h => by
    simp only [List.flatMap_cons] at h
    obtain ⟨h1, h2⟩ := frame_inj (hl _ List.mem_cons_self) (hm _ List.mem_cons_self) h
    rw [h1, frames_inj (fun p hp => hl p (List.mem_cons_of_mem _ hp)) (fun p hp => hm p (List.mem_cons_of_mem _ hp)) (by simpa using hn) h2]
theorem cut_inj {n n' : List Int} {l m : List (List Int)} (h0 : n.length < 4294967296) (h0' : n'.length < 4294967296) (hl : ∀ p ∈ l, p.length < 4294967296) (hm : ∀ p ∈ m, p.length < 4294967296) (hll : l.length < 4294967296) (hml : m.length < 4294967296)
    (h : Sh.cut n l = Sh.cut n' m) : n = n' ∧ l = m := by
  simp only [Sh.cut, List.append_assoc] at h
  obtain ⟨h1, h2⟩ := frame_inj h0 h0' h
  obtain ⟨h3, h4⟩ := List.append_inj h2 (by rw [be_length, be_length])
  exact ⟨h1, frames_inj hl hm (be_inj hll hml h3) h4⟩
theorem strL_inj {a b : ByteArray} (h : strL a = strL b) : a = b := by
  have hd : a.data.toList = b.data.toList := by
    have hl : a.data.toList.length = b.data.toList.length := by simpa [strL] using congrArg List.length h
    apply List.ext_getElem hl
    intro i h1 h2
    have := congrArg (fun z => z[i]?) h
    simp only [strL, List.getElem?_map, List.getElem?_eq_getElem h1, List.getElem?_eq_getElem h2, Option.map_some, Option.some.injEq] at this
    exact UInt8.toNat_inj.1 (by omega)
  obtain ⟨⟨l⟩⟩ := a
  obtain ⟨⟨m⟩⟩ := b
  simp only at hd
  rw [hd]
theorem strEq_str (a b : ByteArray) : strEq a b = decide (strL a = strL b) := by
  unfold strEq
  rw [Bool.eq_iff_iff, beq_iff_eq, decide_eq_true_iff]
  constructor
  · intro h
    rw [ByteArray.toList_eq, ByteArray.toList_eq] at h
    simp only [strL, h]
  · intro h
    rw [strL_inj h]
theorem f27.parts (K N : Nat) (ll : List Ent) (hN : ll.length = N) {b : Nat} (ho : Rs.ok b ll) (hNb : N ≤ 1000000) (ht : Rs.tot ll ≤ 1000000) (hb : b ≤ 1000000) (h0 : 0 < N) (hK : N + 10 < K) (m : List Int) (a : Nat) (ha : m.length = a) (ha2 : a ≤ 10000000) :
    iter (f27.s0 K) K (N, a + 4 * 1 + Rs.tot (ll.take 1), 1, ll, a + 4 * 1 + Rs.tot (ll.take 1), m ++ Rs.fcat (ll.take 1)) = some (a + 4 * N + Rs.tot ll, ll, a + 4 * N + Rs.tot ll, m ++ Rs.fcat ll) := by
  have := iter_for (stp := f27.s0 K) (N := N - 1) (fun i => (N, a + 4 * (i + 1) + Rs.tot (ll.take (i + 1)), ((i + 1 : Nat) : Int), ll, a + 4 * (i + 1) + Rs.tot (ll.take (i + 1)), m ++ Rs.fcat (ll.take (i + 1)))) (y := some (a + 4 * N + Rs.tot ll, ll, a + 4 * N + Rs.tot ll, m ++ Rs.fcat ll)) ?_ ?_ (K := K) (by omega)
  · simpa [Rs.tot, Rs.fcat] using this
  · intro i' hi rec
    obtain ⟨i, hii⟩ : ∃ i, i = i' + 1 := ⟨_, rfl⟩
    rw [← hii]
    have hi' : i < ll.length := by omega
    have h1 := Rs.tot_next hi'
    have h2 := Rs.tot_take ll (i + 1)
    have h3 := (ho _ (Rs.at_mem hi')).1
    have hl : (m ++ Rs.fcat (ll.take i)).length = a + 4 * i + Rs.tot (ll.take i) := by
      have key : ∀ l : List Ent, (Rs.fcat l).length = 4 * l.length + Rs.tot l := fun l => by
        induction l with
        | nil => rfl
        | cons e l ih => simp only [Rs.fcat, Rs.tot, List.flatMap_cons, List.length_append, List.map_cons, List.sum_cons, List.length_cons, frame_length, Rs.sh_length] at ih ⊢; omega
      rw [List.length_append, ha, key, List.length_take]; omega
    simp only [f27.s0, f27.s0t]
    rw [decide_eq_true (show (i : Int) < ((N : Nat) : Int) by omega), cond_t, decide_eq_true (show (0 : Int) ≤ (i : Int) ∧ (i : Int) < ((N : Nat) : Int) by omega), cond_t, Int.toNat_natCast, Nat.zero_add, Rs.blt hi', cond_t, Nat.zero_add, ble_true (Nat.le_refl _), Nat.zero_add, ble_true (Nat.le_refl _), Bool.and_self, Bool.and_self, Bool.and_self, cond_t, subI_self _ hl]
    rw [show f58.F K (a + 4 * i + Rs.tot (ll.take i), (entAt ll i).1, a + 4 * i + Rs.tot (ll.take i), m ++ Rs.fcat (ll.take i), (entAt ll i).1, subI (entAt ll i).2.2 0 (entAt ll i).1) = _ from f58.spec K _ (entAt ll i).1 _ (Rs.sh (entAt ll i)) hl (Rs.sh_length _) (by omega) (by omega), bind_s]
    simp only []
    rw [wrap_i _ (by omega) (by omega), List.append_assoc, ← Rs.fcat_next hi', show a + 4 * i + Rs.tot (ll.take i) + 4 + (entAt ll i).1 = a + 4 * (i + 1) + Rs.tot (ll.take (i + 1)) by omega]
    rfl
  · intro rec
    simp only [f27.s0, f27.s0t]
    rw [decide_eq_false (show ¬ ((N - 1 + 1 : Nat) : Int) < ((N : Nat) : Int) by omega), cond_f, List.take_of_length_le (by omega), show N - 1 + 1 = N by omega]
theorem f27.spec (K N c : Nat) (name : ByteArray) (ll : List Ent) (hs : name.size ≤ 1000000) (hN : ll.length = N) {b : Nat} (ho : Rs.ok b ll) (hNb : N ≤ 1000000) (ht : Rs.tot ll ≤ 1000000) (hb : b ≤ 1000000) (hK : N + 10 < K) (hc : c = 8 + name.size + 4 * N + Rs.tot ll) :
    f27.F K (name, N, ll) = some (if 0 < N then .inl (c, ll, c, Sh.cut (strL name) (Rs.shs ll)) else .inr (c, c, ll, c, Sh.cut (strL name) (Rs.shs ll))) := by
  have hnl := strL_length name
  have hf := frame_length (strL name)
  rw [hnl] at hf
  simp only [f27.F, f27.T]
  rw [Nat.zero_add, ble_true (Nat.le_refl name.size), Bool.and_self, Bool.and_self, cond_t, subI_self _ hnl, f58.none K name.size _ hnl (by omega), bind_s]
  simp only []
  rw [Nat.zero_add, ble_true (Nat.le_refl (4 + name.size)), Bool.and_self, Bool.and_self, cond_t, subI_self _ hf, wrap_u _ (by omega) (by omega)]
  have e59 : f59.F K (4 + name.size, ((N : Nat) : Int), 4, 4 + name.size, Sh.frame (strL name)) = some (4 + name.size + 4, 4 + name.size + 4, 4 + name.size, Sh.frame (strL name), 4 + name.size + 4, Sh.frame (strL name) ++ be 4 N) := f59.spec K _ 4 N _ hf (by omega) (by omega) (by omega)
  have hl2 : (Sh.frame (strL name) ++ be 4 N).length = 4 + name.size + 4 := by rw [List.length_append, hf, be_length]
  rw [e59, bind_s]
  simp only []
  by_cases h0 : 0 < N
  · have hi' : 0 < ll.length := by omega
    have h1 : Rs.tot (ll.take 1) = Rs.tot (ll.take 0) + (entAt ll 0).1 := Rs.tot_next hi'
    have h2 := Rs.tot_take ll 1
    have h3 := (ho _ (Rs.at_mem hi')).1
    have ht0 : Rs.tot (ll.take 0) = 0 := rfl
    rw [decide_eq_true (show (0 : Int) < ((N : Nat) : Int) by omega), cond_t, decide_eq_true (show (0 : Int) ≤ 0 ∧ (0 : Int) < ((N : Nat) : Int) by omega), cond_t, Rs.blt hi', cond_t, Nat.zero_add, Nat.zero_add, ble_true (Nat.le_refl _), ble_true (Nat.le_refl _), Bool.and_self, Bool.and_self, Bool.and_self, cond_t, subI_self _ hl2]
    rw [show f58.F K (4 + name.size + 4, (entAt ll 0).1, 4 + name.size + 4, Sh.frame (strL name) ++ be 4 N, (entAt ll 0).1, subI (entAt ll 0).2.2 0 (entAt ll 0).1) = _ from f58.spec K _ (entAt ll 0).1 _ (Rs.sh (entAt ll 0)) hl2 (Rs.sh_length _) (by omega) (by omega), bind_s]
    simp only []
    have hp := f27.parts K N ll hN ho hNb ht hb h0 hK _ _ hl2 (by omega)
    rw [show 4 + name.size + 4 + 4 + (entAt ll 0).1 = 4 + name.size + 4 + 4 * 1 + Rs.tot (ll.take 1) by omega, show Sh.frame (strL name) ++ be 4 N ++ Sh.frame (Rs.sh (entAt ll 0)) = Sh.frame (strL name) ++ be 4 N ++ Rs.fcat (ll.take 1) by rw [show (1 : Nat) = 0 + 1 from rfl, Rs.fcat_next hi']; rfl]
    rw [hp, bind_s, if_pos h0, show 4 + name.size + 4 + 4 * N + Rs.tot ll = c by omega, Rs.fcat_cut, hN]
  · have hN0 : N = 0 := by omega
    subst hN0
    have hl0 : ll = [] := List.length_eq_zero_iff.1 hN
    subst hl0
    rw [decide_eq_false (show ¬ (0 : Int) < ((0 : Nat) : Int) by omega), cond_f, if_neg h0, show 4 + name.size + 4 = c by rw [hc]; simp [Rs.tot]; omega, Rs.fcat_cut]
    simp [Rs.fcat]
end Go.Proofs

namespace Go.Proofs
open Go.VM
theorem ble_self (n : Nat) : Nat.ble n n = true := ble_true (Nat.le_refl n)
theorem beq_cut {p q : Prop} [Decidable p] [Decidable q] (h : p ↔ q) : (decide p == decide q) = true := by
  rw [decide_eq_decide.2 h]; exact beq_self_eq_true _
theorem f6.holds (n1 n2 : ByteArray) (_h1 : n1.size ≤ maxLen) (_h2 : n2.size ≤ maxLen) (ps : List (List Int)) (po : ∀ p ∈ ps, octets p) (pb : ∀ p ∈ ps, p.length ≤ 140737488351232) (qs : List (List Int)) (qo : ∀ p ∈ qs, octets p) (qb : ∀ p ∈ qs, p.length ≤ 140737488351232) :
    f6.F 100000 (n1, n2, ps.length, qs.length, Rs.ents ps, Rs.ents qs) = some (true, Rs.ents ps, Rs.ents qs) := by
  generalize hpn : ps.length = N
  generalize hqn : qs.length = N2
  have hN : (Rs.ents ps).length = N := by rw [Rs.ents_length, hpn]
  have hN2 : (Rs.ents qs).length = N2 := by rw [Rs.ents_length, hqn]
  have hb : ∀ e ∈ Rs.ents ps, e.1 ≤ 140737488355328 := fun e he => by
    have := pb _ (Rs.ents_sh he).1
    rw [Rs.sh_length] at this; omega
  have hb' : ∀ e ∈ Rs.ents qs, e.1 ≤ 140737488355328 := fun e he => by
    have := qb _ (Rs.ents_sh he).1
    rw [Rs.sh_length] at this; omega
  have hq : Nat.beq N (List.length (Rs.ents ps)) = true := by rw [hN]; exact Nat.beq_refl N
  have hq2 : Nat.beq N2 (List.length (Rs.ents qs)) = true := by rw [hN2]; exact Nat.beq_refl N2
  simp only [f6.F, f6.T]
  rw [f26.holds, bind_s, Bool.not_true, cond_f]
  obtain ⟨g, hg, hg2⟩ := f21.spec 100000 N n1 (Rs.ents ps) hN hb (by omega)
  rw [hq, cond_t, hg, bind_s]
  simp only []
  cases g with
  | true => rw [cond_t, bind_s]
  | false =>
  obtain ⟨k, hk, hk2⟩ := f21.spec 100000 N2 n2 (Rs.ents qs) hN2 hb' (by omega)
  rw [cond_f, hq2, cond_t, hk, bind_s]
  simp only []
  cases k with
  | true => rw [cond_t, bind_s]
  | false =>
  obtain ⟨s1, c1, t1⟩ := hg2 rfl
  obtain ⟨s2, c2, t2⟩ := hk2 rfl
  have b1 : ∀ e ∈ Rs.ents ps, e.1 ≤ 20000 := fun e he => Nat.le_trans (Rs.tot_mem he) t1
  have o1 : Rs.ok 20000 (Rs.ents ps) := Rs.ents_ok po b1
  have b2 : ∀ e ∈ Rs.ents qs, e.1 ≤ 20000 := fun e he => Nat.le_trans (Rs.tot_mem he) t2
  have o2 : Rs.ok 20000 (Rs.ents qs) := Rs.ents_ok qo b2
  obtain ⟨a1, ha1⟩ : ∃ a, a = 8 + n1.size + 4 * N + Rs.tot (Rs.ents ps) := ⟨_, rfl⟩
  obtain ⟨a2, ha2⟩ : ∃ a, a = 8 + n2.size + 4 * N2 + Rs.tot (Rs.ents qs) := ⟨_, rfl⟩
  have h27 := f27.spec 100000 N a1 n1 _ (by omega) hN o1 (by omega) (by omega) (by omega) (by omega) ha1
  have h27' := f27.spec 100000 N2 a2 n2 _ (by omega) hN2 o2 (by omega) (by omega) (by omega) (by omega) ha2
  have h28 := f28.spec 100000 N N2 _ _ hN hN2 (by omega) (fun e he => by have := b1 e he; omega) (by omega)
  have h24 := f24v1.spec 100000 N n1 _ (by omega) hN o1 (by omega) (by omega) (by omega)
  have h24' := f24v1.spec 100000 N2 n2 _ (by omega) hN2 o2 (by omega) (by omega) (by omega)
  have l1 : (Sh.cut (strL n1) (Rs.shs (Rs.ents ps))).length = a1 := by rw [Rs.cut_length, hN, ha1]
  have l2 : (Sh.cut (strL n2) (Rs.shs (Rs.ents qs))).length = a2 := by rw [Rs.cut_length, hN2, ha2]
  have h29 := f29.spec 100000 a1 a2 _ _ l1 l2 (by omega) (by omega)
  have h30 := f30.spec 100000 a1 _ l1 (Rs.cut_octets n1 _ o1) (by omega) (by omega)
  have hsub := subI_self _ l1
  have hsub' := subI_self _ l2
  have hin : Sh.cut (strL n1) (Rs.shs (Rs.ents ps)) = Sh.cut (strL n2) (Rs.shs (Rs.ents qs)) → strL n1 = strL n2 ∧ Rs.shs (Rs.ents ps) = Rs.shs (Rs.ents qs) := by
    refine cut_inj (by rw [strL_length]; omega) (by rw [strL_length]; omega) (fun p hp => ?_) (fun p hp => ?_) (by simp only [Rs.shs, List.length_map]; omega) (by simp only [Rs.shs, List.length_map]; omega)
    · obtain ⟨e, he, rfl⟩ := List.mem_map.1 hp
      have := b1 e he
      rw [Rs.sh_length]; omega
    · obtain ⟨e, he, rfl⟩ := List.mem_map.1 hp
      have := b2 e he
      rw [Rs.sh_length]; omega
  have hsha : Sh.sum (Sh.cut (strL n1) (Rs.shs (Rs.ents ps))) = Sh.sha (strL n1) (Rs.shs (Rs.ents ps)) := rfl
  rw [hsha] at h30
  obtain ⟨C1, hC1⟩ : ∃ C, C = Sh.cut (strL n1) (Rs.shs (Rs.ents ps)) := ⟨_, rfl⟩
  obtain ⟨C2, hC2⟩ : ∃ C, C = Sh.cut (strL n2) (Rs.shs (Rs.ents qs)) := ⟨_, rfl⟩
  rw [← hC1] at h27 h29 h30 hsub hin
  rw [← hC2] at h27' h29 hsub' hin
  rw [strEq_str]
  have hiff : strL n1 = strL n2 → (C1 = C2 ↔ Rs.shs (Rs.ents ps) = Rs.shs (Rs.ents qs)) := fun e => ⟨fun h => (hin h).2, fun h => by rw [hC1, hC2, e, h]⟩
  have tail : (bif decide (strL n1 = strL n2) then
      bif decide (C1 = C2) == decide (Rs.shs (Rs.ents ps) = Rs.shs (Rs.ents qs)) then
        bif !decide (Rs.shs (Rs.ents ps) = Rs.shs (Rs.ents qs)) then some (true, Rs.ents ps, Rs.ents qs)
        else
          some
            (eqL 32 (Sh.sha (strL n1) (Rs.shs (Rs.ents ps))) (Sh.sha (strL n2) (Rs.shs (Rs.ents qs))) && true,
              Rs.ents ps, Rs.ents qs)
      else some (false, Rs.ents ps, Rs.ents qs)
    else
      bif decide (C1 = C2) == false then some (true, Rs.ents ps, Rs.ents qs)
      else some (false, Rs.ents ps, Rs.ents qs)) =
    some (true, Rs.ents ps, Rs.ents qs) := by
    by_cases hn : strL n1 = strL n2
    · rw [decide_eq_true hn, cond_t, beq_cut (hiff hn), cond_t]
      by_cases hS : Rs.shs (Rs.ents ps) = Rs.shs (Rs.ents qs)
      · rw [decide_eq_true hS, Bool.not_true, cond_f, hn, hS, eqL_refl, Bool.and_self]
      · rw [decide_eq_false hS, Bool.not_false, cond_t]
    · rw [decide_eq_false hn, cond_f, decide_eq_false (fun e => hn (hin e).1), beq_self_eq_true, cond_t]
  rw [cond_f, h27, bind_s]
  by_cases z1 : 0 < N <;> by_cases z2 : 0 < N2
  · rw [if_pos z1, altl, h27', bind_s, if_pos z2, altl]
    simp only [Nat.zero_add, ble_self, Bool.and_self, cond_t, hsub, hsub', h28, h29, h24, h24', h30, bind_s, eqL_refl]
    exact tail
  · rw [if_pos z1, altl, h27', bind_s, if_neg z2, altr]
    simp only [Nat.zero_add, ble_self, Bool.and_self, cond_t, hsub, hsub', h28, h29, h24, h24', h30, bind_s, eqL_refl]
    exact tail
  · rw [if_neg z1, altr, h27', bind_s, if_pos z2, altl]
    simp only [Nat.zero_add, ble_self, Bool.and_self, cond_t, hsub, hsub', h28, h29, h24, h24', h30, bind_s, eqL_refl]
    exact tail
  · rw [if_neg z1, altr, h27', bind_s, if_neg z2, altr]
    simp only [Nat.zero_add, ble_self, Bool.and_self, cond_t, hsub, hsub', h28, h29, h24, h24', h30, bind_s, eqL_refl]
    exact tail
end Go.Proofs
