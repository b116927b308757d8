/- Go functions: for each a Lean function with the same answers, and the proof that the call comes to them, with no condition. -/
import Derived.Test.YtjkelipglcnpmaaDoorVmx
import Derived.Test.YtjkelipglcnpmaaDoorProg
import Derived.KernelRfl
namespace Go.Proofs
open Go.VM
theorem mix : Tryd.prog.follows .mixedOrders = true := by kernel_rfl
noncomputable def bodyOf (f : Func) : Code := f.body.getD .skip
def ti3 : TI := ⟨1, (Go.TypeDesc.int Go.IntKind.i64), [.int .i64 0], 0, [], false, 0⟩
theorem ty3 : TyOK Tryd.prog 3 ti3 := ⟨by kernel_rfl, by kernel_rfl, rfl, rfl, rfl, rfl, trivial, trivial, fun h => absurd rfl h, fun h => by cases h⟩
def ti4 : TI := ⟨1, Go.TypeDesc.bool, [.bool false], 0, [], false, 0⟩
theorem ty4 : TyOK Tryd.prog 4 ti4 := ⟨by kernel_rfl, by kernel_rfl, rfl, rfl, rfl, rfl, trivial, trivial, fun h => absurd rfl h, fun h => by cases h⟩
def ti5 : TI := ⟨1, (Go.TypeDesc.int Go.IntKind.u8), [.int .u8 0], 0, [], false, 1⟩
theorem ty5 : TyOK Tryd.prog 5 ti5 := ⟨by kernel_rfl, by kernel_rfl, rfl, rfl, rfl, rfl, trivial, trivial, fun _ => by kernel_rfl, fun h => by cases h⟩
def ti9 : TI := ⟨1, Go.TypeDesc.string, [.str ByteArray.empty], 0, [], false, 0⟩
theorem ty9 : TyOK Tryd.prog 9 ti9 := ⟨by kernel_rfl, by kernel_rfl, rfl, rfl, rfl, rfl, trivial, trivial, fun h => absurd rfl h, fun h => by cases h⟩
def ti21 : TI := ⟨1, (Go.TypeDesc.int Go.IntKind.i32), [.int .i32 0], 0, [], false, 0⟩
theorem ty21 : TyOK Tryd.prog 21 ti21 := ⟨by kernel_rfl, by kernel_rfl, rfl, rfl, rfl, rfl, trivial, trivial, fun h => absurd rfl h, fun h => by cases h⟩
def ti23 : TI := ⟨16, .array 16 5, [.ints .u8 16 [0, 0, 0, 0, 0, 0, 0, 0, 0, 0, 0, 0, 0, 0, 0, 0]], 1, [], true, 0⟩
theorem ty23 : TyOK Tryd.prog 23 ti23 := ⟨by kernel_rfl, by kernel_rfl, rfl, rfl, rfl, rfl, by show _ = _; kernel_rfl, trivial, fun h => absurd rfl h, fun _ => eqs_arr (e := 5) (by kernel_rfl) (by kernel_rfl) ⟨.u8, by kernel_rfl⟩ (by kernel_rfl)⟩
def ti31 : TI := ⟨1, .slice 5, [.raw (.slice none 0 0)], 1, [], false, 0⟩
theorem ty31 : TyOK Tryd.prog 31 ti31 := ⟨by kernel_rfl, by kernel_rfl, rfl, rfl, rfl, rfl, by show _ = _; kernel_rfl, trivial, fun h => absurd rfl h, fun h => by cases h⟩
def ti34 : TI := ⟨4, .array 4 3, [.ints .i64 4 [0, 0, 0, 0]], 1, [], true, 0⟩
theorem ty34 : TyOK Tryd.prog 34 ti34 := ⟨by kernel_rfl, by kernel_rfl, rfl, rfl, rfl, rfl, by show _ = _; kernel_rfl, trivial, fun h => absurd rfl h, fun _ => eqs_arr (e := 3) (by kernel_rfl) (by kernel_rfl) ⟨.i64, by kernel_rfl⟩ (by kernel_rfl)⟩
def tys : Tab := [(3, ti3), (4, ti4), (5, ti5), (9, ti9), (21, ti21), (23, ti23), (31, ti31), (34, ti34)]
theorem tys_ok : TyAll Tryd.prog (getA tys) := tyAll_of (by
  intro p hp
  simp only [tys, List.mem_cons, List.not_mem_nil, or_false] at hp
  rcases hp with rfl | rfl | rfl | rfl | rfl | rfl | rfl | rfl
  · exact ty3
  · exact ty4
  · exact ty5
  · exact ty9
  · exact ty21
  · exact ty23
  · exact ty31
  · exact ty34)
end Go.Proofs

namespace Go.Proofs
open Go.VM
noncomputable def f9.c : Code := bodyOf Tryd.f9
def f9.lp (_ : Nat) : Nat → Option (Hint × Summ) := fun _ => none
noncomputable def f9.tab (_K : Nat) : List (Nat × Entry) := []
theorem f9.tabOK (K : Nat) : SpecOK Tryd.prog (tabSp (f9.tab K)) := tab_ok ( tab_nil)
theorem f9.loops (K : Nat) : LoopsOK Tryd.prog 24 0 (f9.lp K) f9.c := loops_ok (by
  have h : loopsIn (f9.lp K) f9.c = [] := by kernel_rfl
  rw [h]; simp)
def f9.T (_K : Nat) (a0 : Int) : Option (Int) :=
  bif (decide (a0 ≥ 48)) then
    bif (decide (a0 ≤ 57)) then
      some (IntKind.wrap .i64 (IntKind.wrap .i32 (a0 - 48)))
    else
      bif (decide (a0 ≥ 97)) then
        bif (decide (a0 ≤ 102)) then
          some (IntKind.wrap .i64 ((IntKind.wrap .i64 (IntKind.wrap .i32 (a0 - 97))) + 10))
        else
          some (-1)
      else
        some (-1)
  else
    bif (decide (a0 ≥ 97)) then
      bif (decide (a0 ≤ 102)) then
        some (IntKind.wrap .i64 ((IntKind.wrap .i64 (IntKind.wrap .i32 (a0 - 97))) + 10))
      else
        some (-1)
    else
      some (-1)
def f9.F (K : Nat) (x : Int) : Option (Int) := f9.T K x
def f9.av (x : Int) : List VV := [.int .i32 x]
def f9.bl (_x : Int) : List (Nat × Blk) := []
def f9.inA : VS → Option (Int)
  | ⟨[(0, .int .i32 a0)], [], 0⟩ => some a0
  | _ => none
def f9.o0 (y : Int) : VS := ⟨[(0, .int .i64 y)], [], 0⟩
def f9.des : ∀ α : Type, Int → (VS → Option α) → Option α := (dv1 f9.o0)
def f9.out : Int → VS := f9.o0
def f9.inR : VS → Option (Int)
  | ⟨[(0, .int .i64 y)], [], 0⟩ => some y
  | _ => none
noncomputable def f9.E (K : Nat) : Entry := genE 0 f9.inA (f9.F K) f9.des
theorem f9.eq (K : Nat) (x : Int) : f9.F K x = xrun (getA tys) (tabSp (f9.tab K)) Tryd.f9.ntmps 0 (f9.lp K) 400 f9.c ⟨initL 0 (f9.av x), f9.bl x, 0⟩ (contF (getA tys) 0 Tryd.f9.results.toList f9.inR) := by kernel_rfl
theorem f9.ok (K : Nat) : EntryOK Tryd.prog 9 (f9.E K) :=
  gen_ok mix tys_ok (f9.tabOK K) Tryd.func9 (by kernel_rfl : Tryd.f9.body = some f9.c) (by kernel_rfl) (f9.loops K) (av := f9.av) (bl := f9.bl) (out := f9.out) (fuel := 400)
    (by intro s x h; unfold f9.inA at h; split at h <;> simp at h; subst h; rfl) (fun _ => Nat.le_of_ble_eq_true rfl)
    (by intro s y h; unfold f9.inR at h; split at h <;> simp at h <;> subst h <;> rfl) (fun _ _ _ => rfl) (f9.eq K)
end Go.Proofs

namespace Go.Proofs
open Go.VM
noncomputable def f7.c : Code := bodyOf Tryd.f7
def f7.s0t (_K : Nat) (rec : List Int × Int × List Int → Option (Int ⊕ Unit)) (t7 : List Int) (t8 : Int) (b0 : List Int) : Option (Int ⊕ Unit) :=
  bif (decide (t8 < 16)) then
    bif decide (0 ≤ t8 ∧ t8 < 16) then
      let v2 := List.getD t7 (Int.toNat t8) 0
      bif decide (0 ≤ t8 ∧ t8 < 16) then
        bif (decide (v2 < (List.getD b0 (Int.toNat t8) 0))) then
          some (.inl (-1))
        else
          bif decide (0 ≤ t8 ∧ t8 < 16) then
            bif (decide (v2 > (List.getD b0 (Int.toNat t8) 0))) then
              some (.inl (1))
            else
              rec (t7, (IntKind.wrap .i64 (t8 + 1)), b0)
          else
            none
      else
        none
    else
      none
  else
    some (.inr ())
def f7.s0 (K : Nat) (rec : List Int × Int × List Int → Option (Int ⊕ Unit)) (x : List Int × Int × List Int) : Option (Int ⊕ Unit) := f7.s0t K rec x.1 x.2.1 x.2.2
noncomputable def f7.s0.b : Code := (findLoop 0 f7.c).getD .skip
def f7.s0.h : Hint := { lv := [3, 7, 8] }
def f7.s0.ho : Hint := { lv := [4] }
def f7.s0.shp (x : List Int × Int × List Int) : VS := ⟨[(3, .ptr 0 0), (7, .agg [.ints .u8 16 x.1]), (8, .int .i64 x.2.1)], [(0, ([.ints .u8 16 x.2.2], 23, .norm))], 1⟩
def f7.s0.inX : VS → Option (List Int × Int × List Int)
  | ⟨[(3, .ptr 0 0), (7, .agg [.ints .u8 16 t7]), (8, .int .i64 t8)], [(0, ([.ints .u8 16 b0], 23, .norm))], 1⟩ => some (t7, t8, b0)
  | _ => none
def f7.s0.o0 (y : Int) : VS := ⟨[(4, .int .i64 y)], [], 0⟩
def f7.s0.o1 (_y : Unit) : VS := ⟨[], [], 0⟩
def f7.s0.des : ∀ α : Type, (Int ⊕ Unit) → (Ex → VS → Option α) → Option α := (desA (des1 (.ret) f7.s0.o0) (des1 (.exit 0) f7.s0.o1))
def f7.s0.out : Int ⊕ Unit → Ex × VS := (alt (fun y => (.ret, f7.s0.o0 y)) (fun y => (.exit 0, f7.s0.o1 y)))
theorem f7.s0.desOK : ∀ α y (k : Ex → VS → Option α), f7.s0.des α y k = k (f7.s0.out y).1 (f7.s0.out y).2 := (desA_ok (fun _ _ _ => rfl) (fun _ _ _ => rfl))
def f7.s0.inY : Ex → VS → Option (Int ⊕ Unit)
  | .ret, ⟨[(4, .int .i64 t4)], [], 0⟩ => some (.inl t4)
  | .exit 0, ⟨[], [], 0⟩ => some (.inr ())
  | _, _ => none
def f7.lp (K : Nat) : Nat → Option (Hint × Summ) := tabLp [(0, f7.s0.h, summOf (iter (f7.s0 K) K) f7.s0.inX f7.s0.des)]
noncomputable def f7.tab (_K : Nat) : List (Nat × Entry) := []
theorem f7.tabOK (K : Nat) : SpecOK Tryd.prog (tabSp (f7.tab K)) := tab_ok ( tab_nil)
theorem f7.s0.eq (K : Nat) (rec : List Int × Int × List Int → Option (Int ⊕ Unit)) (x : List Int × Int × List Int) : f7.s0 K rec x = roundL (getA tys) (tabSp (f7.tab K)) 25 0 (f7.lp K) 400 f7.s0.b f7.s0.h f7.s0.ho f7.s0.shp f7.s0.inX f7.s0.inY rec x := by kernel_rfl
theorem f7.s0.lok (K : Nat) : LoopsOK Tryd.prog 25 0 (f7.lp K) f7.s0.b := loops_ok (by
  have h : loopsIn (f7.lp K) f7.s0.b = [] := by kernel_rfl
  rw [h]; simp)
theorem f7.s0.ok (K : Nat) : SummOK Tryd.prog 25 0 (summOf (iter (f7.s0 K) K) f7.s0.inX f7.s0.des) f7.s0.b :=
  loop_ok mix tys_ok (f7.tabOK K) (h := f7.s0.h) (ho := f7.s0.ho) (shp := f7.s0.shp) (inX := f7.s0.inX) (des := f7.s0.des) (out := f7.s0.out) (inY := f7.s0.inY) (fuel := 400)
    (by intro st x h; unfold f7.s0.inX at h; split at h <;> simp at h; subst h; rfl)
    (by intro e st y h; unfold f7.s0.inY at h; split at h <;> simp at h <;> subst h <;> rfl)
    f7.s0.desOK (f7.s0.lok K) (f7.s0 K) (f7.s0.eq K) K
theorem f7.loops (K : Nat) : LoopsOK Tryd.prog 25 0 (f7.lp K) f7.c := loops_ok (by
  have h : loopsIn (f7.lp K) f7.c = [(0, f7.s0.b)] := by kernel_rfl
  rw [h]
  intro p hp
  simp only [List.mem_cons, List.not_mem_nil, or_false] at hp
  rcases hp with rfl
  · exact ⟨_, rfl, (f7.s0.ok K)⟩)
def f7.T (K : Nat) (a0 : List Int) (a1 : List Int) : Option (Int) :=
  (iter (f7.s0 K) K (a0, 0, a1)).bind fun y10 =>
  alt (fun y11 =>
    some y11) (fun y12 =>
    some (0)) y10
def f7.F (K : Nat) (x : List Int × List Int) : Option (Int) := f7.T K x.1 x.2
def f7.av (x : List Int × List Int) : List VV := [.agg [.ints .u8 16 x.1], .agg [.ints .u8 16 x.2]]
def f7.bl (_x : List Int × List Int) : List (Nat × Blk) := []
def f7.inA : VS → Option (List Int × List Int)
  | ⟨[(0, .agg [.ints .u8 16 a0]), (1, .agg [.ints .u8 16 a1])], [], 0⟩ => some (a0, a1)
  | _ => none
def f7.o0 (y : Int) : VS := ⟨[(0, .int .i64 y)], [], 0⟩
def f7.des : ∀ α : Type, Int → (VS → Option α) → Option α := (dv1 f7.o0)
def f7.out : Int → VS := f7.o0
def f7.inR : VS → Option (Int)
  | ⟨[(0, .int .i64 y)], [], 0⟩ => some y
  | _ => none
noncomputable def f7.E (K : Nat) : Entry := genE 0 f7.inA (f7.F K) f7.des
theorem f7.eq (K : Nat) (x : List Int × List Int) : f7.F K x = xrun (getA tys) (tabSp (f7.tab K)) Tryd.f7.ntmps 0 (f7.lp K) 400 f7.c ⟨initL 0 (f7.av x), f7.bl x, 0⟩ (contF (getA tys) 0 Tryd.f7.results.toList f7.inR) := by kernel_rfl
theorem f7.ok (K : Nat) : EntryOK Tryd.prog 7 (f7.E K) :=
  gen_ok mix tys_ok (f7.tabOK K) Tryd.func7 (by kernel_rfl : Tryd.f7.body = some f7.c) (by kernel_rfl) (f7.loops K) (av := f7.av) (bl := f7.bl) (out := f7.out) (fuel := 400)
    (by intro s x h; unfold f7.inA at h; split at h <;> simp at h; subst h; rfl) (fun _ => Nat.le_of_ble_eq_true rfl)
    (by intro s y h; unfold f7.inR at h; split at h <;> simp at h <;> subst h <;> rfl) (fun _ _ _ => rfl) (f7.eq K)
end Go.Proofs

namespace Go.Proofs
open Go.VM
noncomputable def f6.c : Code := bodyOf Tryd.f6
def f6.s0t (K : Nat) (rec : List Int × ByteArray × Nat → Option ((Int × List Int) ⊕ (List Int))) (b0 : List Int) (b1_0 : ByteArray) (b1_1 : Nat) : Option ((Int × List Int) ⊕ (List Int)) :=
  bif Nat.blt b1_1 (ByteArray.size b1_0) then
    let v3 := (((Utf8.decode b1_0 b1_1).1 : Nat) : Int)
    let v2 := b1_1 + ((Utf8.decode b1_0 b1_1).2)
    let v4 := ((b1_1 : Nat) : Int)
    let v5 := Int.tmod v4 5
    (f9.F K v3).bind fun y6 =>
    bif (!((v5 == 4) == (v3 == 58))) then
      some (.inl (4, [0, 0, 0, 0, 0, 0, 0, 0, 0, 0, 0, 0, 0, 0, 0, 0]))
    else
      bif (v5 != 4) then
        bif (decide (y6 < 0)) then
          some (.inl (4, [0, 0, 0, 0, 0, 0, 0, 0, 0, 0, 0, 0, 0, 0, 0, 0]))
        else
          bif (v5 != 4) then
            let v12 := IntKind.wrap .i64 ((IntKind.wrap .i64 (2 * (IntKind.wrap .i64 (Int.tdiv v4 5)))) + (IntKind.wrap .i64 (Int.tdiv v5 2)))
            bif decide (0 ≤ v12 ∧ v12 < 16) then
              bif decide (0 ≤ v5 ∧ v5 < 4) then
                bif Nat.blt (0 + (Int.toNat v5)) 4 then
                  let v16 := Int.tmod (List.getD [12, 8, 4, 0] (0 + (Int.toNat v5)) 0) 8
                  bif decide (0 ≤ v16) then
                    bif decide (0 ≤ v12 ∧ v12 < 16) then
                      rec ((setD b0 (Int.toNat v12) (bits .or .u8 (List.getD b0 (Int.toNat v12) 0) (IntKind.wrap .u8 (shiftI .shl .i64 y6 v16)))), b1_0, v2)
                    else
                      none
                  else
                    none
                else
                  none
              else
                none
            else
              none
          else
            rec (b0, b1_0, v2)
      else
        bif (v5 != 4) then
          let v25 := IntKind.wrap .i64 ((IntKind.wrap .i64 (2 * (IntKind.wrap .i64 (Int.tdiv v4 5)))) + (IntKind.wrap .i64 (Int.tdiv v5 2)))
          bif decide (0 ≤ v25 ∧ v25 < 16) then
            bif decide (0 ≤ v5 ∧ v5 < 4) then
              bif Nat.blt (0 + (Int.toNat v5)) 4 then
                let v29 := Int.tmod (List.getD [12, 8, 4, 0] (0 + (Int.toNat v5)) 0) 8
                bif decide (0 ≤ v29) then
                  bif decide (0 ≤ v25 ∧ v25 < 16) then
                    rec ((setD b0 (Int.toNat v25) (bits .or .u8 (List.getD b0 (Int.toNat v25) 0) (IntKind.wrap .u8 (shiftI .shl .i64 y6 v29)))), b1_0, v2)
                  else
                    none
                else
                  none
              else
                none
            else
              none
          else
            none
        else
          rec (b0, b1_0, v2)
  else
    some (.inr b0)
def f6.s0 (K : Nat) (rec : List Int × ByteArray × Nat → Option ((Int × List Int) ⊕ (List Int))) (x : List Int × ByteArray × Nat) : Option ((Int × List Int) ⊕ (List Int)) := f6.s0t K rec x.1 x.2.1 x.2.2
noncomputable def f6.s0.b : Code := (findLoop 0 f6.c).getD .skip
def f6.s0.h : Hint := { lv := [2, 13] }
def f6.s0.ho : Hint := { lv := [2, 3] }
def f6.s0.shp (x : List Int × ByteArray × Nat) : VS := ⟨[(2, .ptr 0 0), (13, .ptr 1 0)], [(0, ([.ints .u8 16 x.1], 23, .norm)), (1, ([], 0, .it x.2.1 x.2.2))], 2⟩
def f6.s0.inX : VS → Option (List Int × ByteArray × Nat)
  | ⟨[(2, .ptr 0 0), (13, .ptr 1 0)], [(0, ([.ints .u8 16 b0], 23, .norm)), (1, ([], 0, .it b1_0 b1_1))], 2⟩ => some (b0, b1_0, b1_1)
  | _ => none
def f6.s0.o0 (y : Int × List Int) : VS := ⟨[(2, .ptr 0 0), (3, .int .i64 y.1)], [(0, ([.ints .u8 16 y.2], 23, .norm))], 1⟩
def f6.s0.o1 (y : List Int) : VS := ⟨[(2, .ptr 0 0)], [(0, ([.ints .u8 16 y], 23, .norm))], 1⟩
def f6.s0.des : ∀ α : Type, ((Int × List Int) ⊕ (List Int)) → (Ex → VS → Option α) → Option α := (desA (des1 (.ret) f6.s0.o0) (des1 (.exit 0) f6.s0.o1))
def f6.s0.out : (Int × List Int) ⊕ (List Int) → Ex × VS := (alt (fun y => (.ret, f6.s0.o0 y)) (fun y => (.exit 0, f6.s0.o1 y)))
theorem f6.s0.desOK : ∀ α y (k : Ex → VS → Option α), f6.s0.des α y k = k (f6.s0.out y).1 (f6.s0.out y).2 := (desA_ok (fun _ _ _ => rfl) (fun _ _ _ => rfl))
def f6.s0.inY : Ex → VS → Option ((Int × List Int) ⊕ (List Int))
  | .ret, ⟨[(2, .ptr 0 0), (3, .int .i64 t3)], [(0, ([.ints .u8 16 b0], 23, .norm))], 1⟩ => some (.inl (t3, b0))
  | .exit 0, ⟨[(2, .ptr 0 0)], [(0, ([.ints .u8 16 b0], 23, .norm))], 1⟩ => some (.inr b0)
  | _, _ => none
def f6.lp (K : Nat) : Nat → Option (Hint × Summ) := tabLp [(0, f6.s0.h, summOf (iter (f6.s0 K) K) f6.s0.inX f6.s0.des)]
noncomputable def f6.tab (K : Nat) : List (Nat × Entry) := [(9, (f9.E K))]
theorem f6.tabOK (K : Nat) : SpecOK Tryd.prog (tabSp (f6.tab K)) := tab_ok ((tab_cons (f9.ok K) tab_nil))
theorem f6.s0.eq (K : Nat) (rec : List Int × ByteArray × Nat → Option ((Int × List Int) ⊕ (List Int))) (x : List Int × ByteArray × Nat) : f6.s0 K rec x = roundL (getA tys) (tabSp (f6.tab K)) 56 0 (f6.lp K) 400 f6.s0.b f6.s0.h f6.s0.ho f6.s0.shp f6.s0.inX f6.s0.inY rec x := by kernel_rfl
theorem f6.s0.lok (K : Nat) : LoopsOK Tryd.prog 56 0 (f6.lp K) f6.s0.b := loops_ok (by
  have h : loopsIn (f6.lp K) f6.s0.b = [] := by kernel_rfl
  rw [h]; simp)
theorem f6.s0.ok (K : Nat) : SummOK Tryd.prog 56 0 (summOf (iter (f6.s0 K) K) f6.s0.inX f6.s0.des) f6.s0.b :=
  loop_ok mix tys_ok (f6.tabOK K) (h := f6.s0.h) (ho := f6.s0.ho) (shp := f6.s0.shp) (inX := f6.s0.inX) (des := f6.s0.des) (out := f6.s0.out) (inY := f6.s0.inY) (fuel := 400)
    (by intro st x h; unfold f6.s0.inX at h; split at h <;> simp at h; subst h; rfl)
    (by intro e st y h; unfold f6.s0.inY at h; split at h <;> simp at h <;> subst h <;> rfl)
    f6.s0.desOK (f6.s0.lok K) (f6.s0 K) (f6.s0.eq K) K
theorem f6.loops (K : Nat) : LoopsOK Tryd.prog 56 0 (f6.lp K) f6.c := loops_ok (by
  have h : loopsIn (f6.lp K) f6.c = [(0, f6.s0.b)] := by kernel_rfl
  rw [h]
  intro p hp
  simp only [List.mem_cons, List.not_mem_nil, or_false] at hp
  rcases hp with rfl
  · exact ⟨_, rfl, (f6.s0.ok K)⟩)
def f6.T (K : Nat) (a0 : ByteArray) : Option (List Int × Int) :=
  bif (((ByteArray.size a0 : Nat) : Int) != 39) then
    some ([0, 0, 0, 0, 0, 0, 0, 0, 0, 0, 0, 0, 0, 0, 0, 0], 4)
  else
    (iter (f6.s0 K) K ([0, 0, 0, 0, 0, 0, 0, 0, 0, 0, 0, 0, 0, 0, 0, 0], a0, 0)).bind fun y35 =>
    alt (fun y36 =>
      some (y36.2, y36.1)) (fun y37 =>
      some (y37, 0)) y35
def f6.F (K : Nat) (x : ByteArray) : Option (List Int × Int) := f6.T K x
def f6.av (x : ByteArray) : List VV := [.str x]
def f6.bl (_x : ByteArray) : List (Nat × Blk) := []
def f6.inA : VS → Option (ByteArray)
  | ⟨[(0, .str a0)], [], 0⟩ => some a0
  | _ => none
def f6.o0 (y : List Int × Int) : VS := ⟨[(0, .tup [.agg [.ints .u8 16 y.1], .int .i64 y.2])], [], 0⟩
def f6.des : ∀ α : Type, (List Int × Int) → (VS → Option α) → Option α := (dv1 f6.o0)
def f6.out : List Int × Int → VS := f6.o0
def f6.inR : VS → Option (List Int × Int)
  | ⟨[(0, .tup [.agg [.ints .u8 16 y_0], .int .i64 y_1])], [], 0⟩ => some (y_0, y_1)
  | _ => none
noncomputable def f6.E (K : Nat) : Entry := genE 0 f6.inA (f6.F K) f6.des
theorem f6.eq (K : Nat) (x : ByteArray) : f6.F K x = xrun (getA tys) (tabSp (f6.tab K)) Tryd.f6.ntmps 0 (f6.lp K) 400 f6.c ⟨initL 0 (f6.av x), f6.bl x, 0⟩ (contF (getA tys) 0 Tryd.f6.results.toList f6.inR) := by kernel_rfl
theorem f6.ok (K : Nat) : EntryOK Tryd.prog 6 (f6.E K) :=
  gen_ok mix tys_ok (f6.tabOK K) Tryd.func6 (by kernel_rfl : Tryd.f6.body = some f6.c) (by kernel_rfl) (f6.loops K) (av := f6.av) (bl := f6.bl) (out := f6.out) (fuel := 400)
    (by intro s x h; unfold f6.inA at h; split at h <;> simp at h; subst h; rfl) (fun _ => Nat.le_of_ble_eq_true rfl)
    (by intro s y h; unfold f6.inR at h; split at h <;> simp at h <;> subst h <;> rfl) (fun _ _ _ => rfl) (f6.eq K)
end Go.Proofs

namespace Go.Proofs
open Go.VM
noncomputable def f5.c : Code := bodyOf Tryd.f5
def f5.k0 : ByteArray := ByteArray.mk #[48, 49, 50, 51, 52, 53, 54, 55, 56, 57, 97, 98, 99, 100, 101, 102]
def f5.lp (_ : Nat) : Nat → Option (Hint × Summ) := fun _ => none
noncomputable def f5.tab (_K : Nat) : List (Nat × Entry) := []
theorem f5.tabOK (K : Nat) : SpecOK Tryd.prog (tabSp (f5.tab K)) := tab_ok ( tab_nil)
theorem f5.loops (K : Nat) : LoopsOK Tryd.prog 44 0 (f5.lp K) f5.c := loops_ok (by
  have h : loopsIn (f5.lp K) f5.c = [] := by kernel_rfl
  rw [h]; simp)
def f5.T (_K : Nat) (a0 : List Int) : Option (ByteArray) :=
  let v6 := bits .or .i64 (IntKind.wrap .i64 ((IntKind.wrap .i64 (List.getD a0 0 0)) * 2 ^ 8)) (IntKind.wrap .i64 (List.getD a0 1 0))
  let v8 := bits .and .i64 (Int.fdiv v6 (2 ^ 12)) 15
  bif decide (0 ≤ v8 ∧ v8 < ((ByteArray.size f5.k0 : Nat) : Int)) then
    let v11 := bits .and .i64 (Int.fdiv v6 (2 ^ 8)) 15
    bif decide (0 ≤ v11 ∧ v11 < ((ByteArray.size f5.k0 : Nat) : Int)) then
      let v14 := bits .and .i64 (Int.fdiv v6 (2 ^ 4)) 15
      bif decide (0 ≤ v14 ∧ v14 < ((ByteArray.size f5.k0 : Nat) : Int)) then
        let v17 := bits .and .i64 (Int.fdiv v6 (2 ^ 0)) 15
        bif decide (0 ≤ v17 ∧ v17 < ((ByteArray.size f5.k0 : Nat) : Int)) then
          let v24 := bits .or .i64 (IntKind.wrap .i64 ((IntKind.wrap .i64 (List.getD a0 2 0)) * 2 ^ 8)) (IntKind.wrap .i64 (List.getD a0 3 0))
          let v26 := bits .and .i64 (Int.fdiv v24 (2 ^ 12)) 15
          bif decide (0 ≤ v26 ∧ v26 < ((ByteArray.size f5.k0 : Nat) : Int)) then
            let v29 := bits .and .i64 (Int.fdiv v24 (2 ^ 8)) 15
            bif decide (0 ≤ v29 ∧ v29 < ((ByteArray.size f5.k0 : Nat) : Int)) then
              let v32 := bits .and .i64 (Int.fdiv v24 (2 ^ 4)) 15
              bif decide (0 ≤ v32 ∧ v32 < ((ByteArray.size f5.k0 : Nat) : Int)) then
                let v35 := bits .and .i64 (Int.fdiv v24 (2 ^ 0)) 15
                bif decide (0 ≤ v35 ∧ v35 < ((ByteArray.size f5.k0 : Nat) : Int)) then
                  let v42 := bits .or .i64 (IntKind.wrap .i64 ((IntKind.wrap .i64 (List.getD a0 4 0)) * 2 ^ 8)) (IntKind.wrap .i64 (List.getD a0 5 0))
                  let v44 := bits .and .i64 (Int.fdiv v42 (2 ^ 12)) 15
                  bif decide (0 ≤ v44 ∧ v44 < ((ByteArray.size f5.k0 : Nat) : Int)) then
                    let v47 := bits .and .i64 (Int.fdiv v42 (2 ^ 8)) 15
                    bif decide (0 ≤ v47 ∧ v47 < ((ByteArray.size f5.k0 : Nat) : Int)) then
                      let v50 := bits .and .i64 (Int.fdiv v42 (2 ^ 4)) 15
                      bif decide (0 ≤ v50 ∧ v50 < ((ByteArray.size f5.k0 : Nat) : Int)) then
                        let v53 := bits .and .i64 (Int.fdiv v42 (2 ^ 0)) 15
                        bif decide (0 ≤ v53 ∧ v53 < ((ByteArray.size f5.k0 : Nat) : Int)) then
                          let v60 := bits .or .i64 (IntKind.wrap .i64 ((IntKind.wrap .i64 (List.getD a0 6 0)) * 2 ^ 8)) (IntKind.wrap .i64 (List.getD a0 7 0))
                          let v62 := bits .and .i64 (Int.fdiv v60 (2 ^ 12)) 15
                          bif decide (0 ≤ v62 ∧ v62 < ((ByteArray.size f5.k0 : Nat) : Int)) then
                            let v65 := bits .and .i64 (Int.fdiv v60 (2 ^ 8)) 15
                            bif decide (0 ≤ v65 ∧ v65 < ((ByteArray.size f5.k0 : Nat) : Int)) then
                              let v68 := bits .and .i64 (Int.fdiv v60 (2 ^ 4)) 15
                              bif decide (0 ≤ v68 ∧ v68 < ((ByteArray.size f5.k0 : Nat) : Int)) then
                                let v71 := bits .and .i64 (Int.fdiv v60 (2 ^ 0)) 15
                                bif decide (0 ≤ v71 ∧ v71 < ((ByteArray.size f5.k0 : Nat) : Int)) then
                                  let v78 := bits .or .i64 (IntKind.wrap .i64 ((IntKind.wrap .i64 (List.getD a0 8 0)) * 2 ^ 8)) (IntKind.wrap .i64 (List.getD a0 9 0))
                                  let v80 := bits .and .i64 (Int.fdiv v78 (2 ^ 12)) 15
                                  bif decide (0 ≤ v80 ∧ v80 < ((ByteArray.size f5.k0 : Nat) : Int)) then
                                    let v83 := bits .and .i64 (Int.fdiv v78 (2 ^ 8)) 15
                                    bif decide (0 ≤ v83 ∧ v83 < ((ByteArray.size f5.k0 : Nat) : Int)) then
                                      let v86 := bits .and .i64 (Int.fdiv v78 (2 ^ 4)) 15
                                      bif decide (0 ≤ v86 ∧ v86 < ((ByteArray.size f5.k0 : Nat) : Int)) then
                                        let v89 := bits .and .i64 (Int.fdiv v78 (2 ^ 0)) 15
                                        bif decide (0 ≤ v89 ∧ v89 < ((ByteArray.size f5.k0 : Nat) : Int)) then
                                          let v96 := bits .or .i64 (IntKind.wrap .i64 ((IntKind.wrap .i64 (List.getD a0 10 0)) * 2 ^ 8)) (IntKind.wrap .i64 (List.getD a0 11 0))
                                          let v98 := bits .and .i64 (Int.fdiv v96 (2 ^ 12)) 15
                                          bif decide (0 ≤ v98 ∧ v98 < ((ByteArray.size f5.k0 : Nat) : Int)) then
                                            let v101 := bits .and .i64 (Int.fdiv v96 (2 ^ 8)) 15
                                            bif decide (0 ≤ v101 ∧ v101 < ((ByteArray.size f5.k0 : Nat) : Int)) then
                                              let v104 := bits .and .i64 (Int.fdiv v96 (2 ^ 4)) 15
                                              bif decide (0 ≤ v104 ∧ v104 < ((ByteArray.size f5.k0 : Nat) : Int)) then
                                                let v107 := bits .and .i64 (Int.fdiv v96 (2 ^ 0)) 15
                                                bif decide (0 ≤ v107 ∧ v107 < ((ByteArray.size f5.k0 : Nat) : Int)) then
                                                  let v114 := bits .or .i64 (IntKind.wrap .i64 ((IntKind.wrap .i64 (List.getD a0 12 0)) * 2 ^ 8)) (IntKind.wrap .i64 (List.getD a0 13 0))
                                                  let v116 := bits .and .i64 (Int.fdiv v114 (2 ^ 12)) 15
                                                  bif decide (0 ≤ v116 ∧ v116 < ((ByteArray.size f5.k0 : Nat) : Int)) then
                                                    let v119 := bits .and .i64 (Int.fdiv v114 (2 ^ 8)) 15
                                                    bif decide (0 ≤ v119 ∧ v119 < ((ByteArray.size f5.k0 : Nat) : Int)) then
                                                      let v122 := bits .and .i64 (Int.fdiv v114 (2 ^ 4)) 15
                                                      bif decide (0 ≤ v122 ∧ v122 < ((ByteArray.size f5.k0 : Nat) : Int)) then
                                                        let v125 := bits .and .i64 (Int.fdiv v114 (2 ^ 0)) 15
                                                        bif decide (0 ≤ v125 ∧ v125 < ((ByteArray.size f5.k0 : Nat) : Int)) then
                                                          let v132 := bits .or .i64 (IntKind.wrap .i64 ((IntKind.wrap .i64 (List.getD a0 14 0)) * 2 ^ 8)) (IntKind.wrap .i64 (List.getD a0 15 0))
                                                          let v134 := bits .and .i64 (Int.fdiv v132 (2 ^ 12)) 15
                                                          bif decide (0 ≤ v134 ∧ v134 < ((ByteArray.size f5.k0 : Nat) : Int)) then
                                                            let v137 := bits .and .i64 (Int.fdiv v132 (2 ^ 8)) 15
                                                            bif decide (0 ≤ v137 ∧ v137 < ((ByteArray.size f5.k0 : Nat) : Int)) then
                                                              let v140 := bits .and .i64 (Int.fdiv v132 (2 ^ 4)) 15
                                                              bif decide (0 ≤ v140 ∧ v140 < ((ByteArray.size f5.k0 : Nat) : Int)) then
                                                                let v143 := bits .and .i64 (Int.fdiv v132 (2 ^ 0)) 15
                                                                bif decide (0 ≤ v143 ∧ v143 < ((ByteArray.size f5.k0 : Nat) : Int)) then
                                                                  some (mkStr ([(strAt f5.k0 (Int.toNat v8)), (strAt f5.k0 (Int.toNat v11)), (strAt f5.k0 (Int.toNat v14)), (strAt f5.k0 (Int.toNat v17)), 58, (strAt f5.k0 (Int.toNat v26)), (strAt f5.k0 (Int.toNat v29)), (strAt f5.k0 (Int.toNat v32)), (strAt f5.k0 (Int.toNat v35)), 58, (strAt f5.k0 (Int.toNat v44)), (strAt f5.k0 (Int.toNat v47)), (strAt f5.k0 (Int.toNat v50)), (strAt f5.k0 (Int.toNat v53)), 58, (strAt f5.k0 (Int.toNat v62)), (strAt f5.k0 (Int.toNat v65)), (strAt f5.k0 (Int.toNat v68)), (strAt f5.k0 (Int.toNat v71)), 58, (strAt f5.k0 (Int.toNat v80)), (strAt f5.k0 (Int.toNat v83)), (strAt f5.k0 (Int.toNat v86)), (strAt f5.k0 (Int.toNat v89)), 58, (strAt f5.k0 (Int.toNat v98)), (strAt f5.k0 (Int.toNat v101)), (strAt f5.k0 (Int.toNat v104)), (strAt f5.k0 (Int.toNat v107)), 58, (strAt f5.k0 (Int.toNat v116)), (strAt f5.k0 (Int.toNat v119)), (strAt f5.k0 (Int.toNat v122)), (strAt f5.k0 (Int.toNat v125)), 58, (strAt f5.k0 (Int.toNat v134)), (strAt f5.k0 (Int.toNat v137)), (strAt f5.k0 (Int.toNat v140)), (strAt f5.k0 (Int.toNat v143))]))
                                                                else
                                                                  none
                                                              else
                                                                none
                                                            else
                                                              none
                                                          else
                                                            none
                                                        else
                                                          none
                                                      else
                                                        none
                                                    else
                                                      none
                                                  else
                                                    none
                                                else
                                                  none
                                              else
                                                none
                                            else
                                              none
                                          else
                                            none
                                        else
                                          none
                                      else
                                        none
                                    else
                                      none
                                  else
                                    none
                                else
                                  none
                              else
                                none
                            else
                              none
                          else
                            none
                        else
                          none
                      else
                        none
                    else
                      none
                  else
                    none
                else
                  none
              else
                none
            else
              none
          else
            none
        else
          none
      else
        none
    else
      none
  else
    none
def f5.F (K : Nat) (x : List Int) : Option (ByteArray) := f5.T K x
def f5.av (x : List Int) : List VV := [.agg [.ints .u8 16 x]]
def f5.bl (_x : List Int) : List (Nat × Blk) := []
def f5.inA : VS → Option (List Int)
  | ⟨[(0, .agg [.ints .u8 16 a0])], [], 0⟩ => some a0
  | _ => none
def f5.o0 (y : ByteArray) : VS := ⟨[(0, .str y)], [], 0⟩
def f5.des : ∀ α : Type, ByteArray → (VS → Option α) → Option α := (dv1 f5.o0)
def f5.out : ByteArray → VS := f5.o0
def f5.inR : VS → Option (ByteArray)
  | ⟨[(0, .str y)], [], 0⟩ => some y
  | _ => none
noncomputable def f5.E (K : Nat) : Entry := genE 0 f5.inA (f5.F K) f5.des
theorem f5.eq (K : Nat) (x : List Int) : f5.F K x = xrun (getA tys) (tabSp (f5.tab K)) Tryd.f5.ntmps 0 (f5.lp K) 400 f5.c ⟨initL 0 (f5.av x), f5.bl x, 0⟩ (contF (getA tys) 0 Tryd.f5.results.toList f5.inR) := by kernel_rfl
theorem f5.ok (K : Nat) : EntryOK Tryd.prog 5 (f5.E K) :=
  gen_ok mix tys_ok (f5.tabOK K) Tryd.func5 (by kernel_rfl : Tryd.f5.body = some f5.c) (by kernel_rfl) (f5.loops K) (av := f5.av) (bl := f5.bl) (out := f5.out) (fuel := 400)
    (by intro s x h; unfold f5.inA at h; split at h <;> simp at h; subst h; rfl) (fun _ => Nat.le_of_ble_eq_true rfl)
    (by intro s y h; unfold f5.inR at h; split at h <;> simp at h <;> subst h <;> rfl) (fun _ _ _ => rfl) (f5.eq K)
end Go.Proofs

namespace Go.Proofs
open Go.VM
noncomputable def f8.c : Code := bodyOf Tryd.f8
def f8.k0 : ByteArray := ByteArray.mk #[48]
def f8.k1 : ByteArray := ByteArray.mk #[50, 48, 48, 49, 58, 48, 48, 50, 49, 58, 48, 48, 48, 48, 58, 48, 48, 48, 48, 58, 48, 48, 48, 48, 58, 48, 48, 48, 48, 58, 48, 48, 48, 48, 58, 48, 48, 48, 48]
def f8.lp (_ : Nat) : Nat → Option (Hint × Summ) := fun _ => none
noncomputable def f8.tab (K : Nat) : List (Nat × Entry) := [(5, (f5.E K)), (6, (f6.E K)), (7, (f7.E K))]
theorem f8.tabOK (K : Nat) : SpecOK Tryd.prog (tabSp (f8.tab K)) := tab_ok ((tab_cons (f5.ok K) (tab_cons (f6.ok K) (tab_cons (f7.ok K) tab_nil))))
theorem f8.loops (K : Nat) : LoopsOK Tryd.prog 40 0 (f8.lp K) f8.c := loops_ok (by
  have h : loopsIn (f8.lp K) f8.c = [] := by kernel_rfl
  rw [h]; simp)
def f8.T (K : Nat)  : Option (Bool) :=
  (f5.F K [32, 1, 0, 33, 0, 0, 0, 0, 0, 0, 0, 0, 0, 0, 0, 0]).bind fun y1 =>
  (f6.F K y1).bind fun y2 =>
  (f6.F K f8.k0).bind fun y3 =>
  bif (strEq y1 f8.k1) then
    bif (eqL 16 y2.1 [32, 1, 0, 33, 0, 0, 0, 0, 0, 0, 0, 0, 0, 0, 0, 0] && true) then
      bif (y2.2 == 0) then
        bif (y3.2 == 4) then
          (f7.F K ([32, 1, 0, 33, 0, 0, 0, 0, 0, 0, 0, 0, 0, 0, 0, 0], y2.1)).bind fun y6 =>
          some (y6 == 0)
        else
          some false
      else
        some false
    else
      some false
  else
    some false
def f8.F (K : Nat) (_x : Unit) : Option (Bool) := f8.T K
def f8.av (_x : Unit) : List VV := []
def f8.bl (_x : Unit) : List (Nat × Blk) := []
def f8.inA : VS → Option (Unit)
  | ⟨[], [], 0⟩ => some ()
  | _ => none
def f8.o0 (y : Bool) : VS := ⟨[(0, .bool y)], [], 0⟩
def f8.des : ∀ α : Type, Bool → (VS → Option α) → Option α := (dv1 f8.o0)
def f8.out : Bool → VS := f8.o0
def f8.inR : VS → Option (Bool)
  | ⟨[(0, .bool y)], [], 0⟩ => some y
  | _ => none
noncomputable def f8.E (K : Nat) : Entry := genE 0 f8.inA (f8.F K) f8.des
theorem f8.eq (K : Nat) (x : Unit) : f8.F K x = xrun (getA tys) (tabSp (f8.tab K)) Tryd.f8.ntmps 0 (f8.lp K) 400 f8.c ⟨initL 0 (f8.av x), f8.bl x, 0⟩ (contF (getA tys) 0 Tryd.f8.results.toList f8.inR) := by kernel_rfl
theorem f8.ok (K : Nat) : EntryOK Tryd.prog 8 (f8.E K) :=
  gen_ok mix tys_ok (f8.tabOK K) Tryd.func8 (by kernel_rfl : Tryd.f8.body = some f8.c) (by kernel_rfl) (f8.loops K) (av := f8.av) (bl := f8.bl) (out := f8.out) (fuel := 400)
    (by intro s x h; unfold f8.inA at h; split at h <;> simp at h; rfl) (fun _ => Nat.le_of_ble_eq_true rfl)
    (by intro s y h; unfold f8.inR at h; split at h <;> simp at h <;> subst h <;> rfl) (fun _ _ _ => rfl) (f8.eq K)
end Go.Proofs

namespace Go.Proofs
open Go.VM
end Go.Proofs

namespace Go.Proofs
open Go.VM
noncomputable def f4.c : Code := bodyOf Tryd.f4
def f4.lp (_ : Nat) : Nat → Option (Hint × Summ) := fun _ => none
noncomputable def f4.tab (K : Nat) : List (Nat × Entry) := [(6, (f6.E K)), (8, (f8.E K)), (5, (f5.E K))]
theorem f4.tabOK (K : Nat) : SpecOK Tryd.prog (tabSp (f4.tab K)) := tab_ok ((tab_cons (f6.ok K) (tab_cons (f8.ok K) (tab_cons (f5.ok K) tab_nil))))
theorem f4.loops (K : Nat) : LoopsOK Tryd.prog 78 0 (f4.lp K) f4.c := loops_ok (by
  have h : loopsIn (f4.lp K) f4.c = [] := by kernel_rfl
  rw [h]; simp)
def f4.T (K : Nat) (a0 : ByteArray) (a1 : Int) (a2 : Int) : Option (Bool) :=
  (f6.F K a0).bind fun y1 =>
  bif (y1.2 != 0) then
    bif (y1.2 == 4) then
      bif (eqL 16 y1.1 [0, 0, 0, 0, 0, 0, 0, 0, 0, 0, 0, 0, 0, 0, 0, 0] && true) then
        (f8.F K ()).bind fun y3 =>
        some y3
      else
        some false
    else
      some false
  else
    (f5.F K y1.1).bind fun y4 =>
    bif (!(strEq y4 a0)) then
      some false
    else
      bif (((ByteArray.size a0 : Nat) : Int) == 0) then
        some false
      else
        let v7 := ByteArray.size a0
        let v8 := ByteArray.size a0
        let v10 := ((v7 : Nat) : Int)
        bif decide (v10 ≠ 0) then
          let v11 := Int.tmod (IntKind.wrap .i64 a1) v10
          bif (decide (0 ≤ v11 ∧ v11 < ((v7 : Nat) : Int)) && (Nat.blt (0 + (Int.toNat v11)) v8)) then
            let v12 := 0 + (Int.toNat v11)
            bif Nat.blt v12 v8 then
              bif (decide (0 ≤ v11 ∧ v11 < ((v7 : Nat) : Int)) && (Nat.blt (0 + (Int.toNat v11)) v8)) then
                let v15 := 0 + (Int.toNat v11)
                bif Nat.blt v15 v8 then
                  bif Nat.ble (0 + v7) v8 then
                    (f6.F K (mkStr (padT (subI (setD (strL a0) v15 (bits .xor .u8 (List.getD (strL a0) v12 0) a2)) 0 v7) v7))).bind fun y17 =>
                    bif (y17.2 == 0) then
                      bif ((eqL 16 y17.1 y1.1 && true) == (a2 == 0)) then
                        (f8.F K ()).bind fun y21 =>
                        some y21
                      else
                        bif (y17.2 == 4) then
                          bif (a2 != 0) then
                            (f8.F K ()).bind fun y23 =>
                            some y23
                          else
                            some false
                        else
                          some false
                    else
                      bif (y17.2 == 4) then
                        bif (a2 != 0) then
                          (f8.F K ()).bind fun y25 =>
                          some y25
                        else
                          some false
                      else
                        some false
                  else
                    none
                else
                  none
              else
                none
            else
              none
          else
            none
        else
          none
def f4.F (K : Nat) (x : ByteArray × Int × Int) : Option (Bool) := f4.T K x.1 x.2.1 x.2.2
def f4.av (x : ByteArray × Int × Int) : List VV := [.str x.1, .int .u8 x.2.1, .int .u8 x.2.2]
def f4.bl (_x : ByteArray × Int × Int) : List (Nat × Blk) := []
def f4.inA : VS → Option (ByteArray × Int × Int)
  | ⟨[(0, .str a0), (1, .int .u8 a1), (2, .int .u8 a2)], [], 0⟩ => some (a0, a1, a2)
  | _ => none
def f4.o0 (y : Bool) : VS := ⟨[(0, .bool y)], [], 0⟩
def f4.des : ∀ α : Type, Bool → (VS → Option α) → Option α := (dv1 f4.o0)
def f4.out : Bool → VS := f4.o0
def f4.inR : VS → Option (Bool)
  | ⟨[(0, .bool y)], [], 0⟩ => some y
  | _ => none
noncomputable def f4.E (K : Nat) : Entry := genE 0 f4.inA (f4.F K) f4.des
theorem f4.eq (K : Nat) (x : ByteArray × Int × Int) : f4.F K x = xrun (getA tys) (tabSp (f4.tab K)) Tryd.f4.ntmps 0 (f4.lp K) 400 f4.c ⟨initL 0 (f4.av x), f4.bl x, 0⟩ (contF (getA tys) 0 Tryd.f4.results.toList f4.inR) := by kernel_rfl
theorem f4.ok (K : Nat) : EntryOK Tryd.prog 4 (f4.E K) :=
  gen_ok mix tys_ok (f4.tabOK K) Tryd.func4 (by kernel_rfl : Tryd.f4.body = some f4.c) (by kernel_rfl) (f4.loops K) (av := f4.av) (bl := f4.bl) (out := f4.out) (fuel := 400)
    (by intro s x h; unfold f4.inA at h; split at h <;> simp at h; subst h; rfl) (fun _ => Nat.le_of_ble_eq_true rfl)
    (by intro s y h; unfold f4.inR at h; split at h <;> simp at h <;> subst h <;> rfl) (fun _ _ _ => rfl) (f4.eq K)
end Go.Proofs
