/- Plain laws: lemmas that hold with no condition but those that each states. -/
import Derived.Test.YtlncodfolaoilaaQ2
import Derived.Test.YtlncodfolaoilaaQ6
namespace Go.Proofs
open Go.VM
abbrev f44.Ty0 := Nat × Int × Nat × List Int × Nat × List Int × List Int × List Int × List Int × List Int
abbrev f44.Ty1 := Nat × Nat × Int × Nat × List Int × Nat × List Int × List Int × List Int × List Int
abbrev f44.Ty2 := Nat × Int × Nat × List Int × Nat × List Int × List Int × List Int × List Int
abbrev f44.Ty3 := Nat × Nat × List Int × Nat × List Int × List Int × List Int × List Int
abbrev f44.Ty4 := Int × Nat × List Int × Nat × List Int × List Int × List Int × List Int
abbrev f44.Ty5 := Nat × List Int × Nat × List Int × List Int × List Int × List Int
abbrev f44.Ty6 := List Int × Nat × Nat × Nat × List Int × Nat × List Int
abbrev f44.Ty7 := Nat × List Int × Nat × List Int × List Int × List Int
abbrev f44.Ty8 := List Int × Nat × List Int × Nat × List Int
noncomputable def f44.c : Code := bodyOf Try.f44
def f44.s0t (_K : Nat) (rec : f44.Ty1 → Option (f44.Ty3)) (t1 : Nat) (t2 : Nat) (t8 : Int) (b0_0 : Nat) (b0_1 : List Int) (b2_0 : Nat) (b2_1 : List Int) (b4 : List Int) (b5 : List Int) (b6 : List Int) : Option (f44.Ty3) :=
  bif (decide (t8 < 16)) then
    let v2 := IntKind.wrap .i64 (4 * t8)
    bif decide (0 ≤ v2 ∧ v2 < ((t1 : Nat) : Int)) then
      let v3 := 0 + (Int.toNat v2)
      bif Nat.blt v3 b0_0 then
        let v8 := IntKind.wrap .i64 ((IntKind.wrap .i64 (4 * t8)) + 1)
        bif decide (0 ≤ v8 ∧ v8 < ((t1 : Nat) : Int)) then
          let v9 := 0 + (Int.toNat v8)
          bif Nat.blt v9 b0_0 then
            let v15 := IntKind.wrap .i64 ((IntKind.wrap .i64 (4 * t8)) + 2)
            bif decide (0 ≤ v15 ∧ v15 < ((t1 : Nat) : Int)) then
              let v16 := 0 + (Int.toNat v15)
              bif Nat.blt v16 b0_0 then
                let v22 := IntKind.wrap .i64 ((IntKind.wrap .i64 (4 * t8)) + 3)
                bif decide (0 ≤ v22 ∧ v22 < ((t1 : Nat) : Int)) then
                  let v23 := 0 + (Int.toNat v22)
                  bif Nat.blt v23 b0_0 then
                    bif decide (0 ≤ t8 ∧ t8 < 64) then
                      rec (t1, t2, (IntKind.wrap .i64 (t8 + 1)), b0_0, b0_1, b2_0, b2_1, b4, b5, (setD b6 (Int.toNat t8) (bits .or .u32 (bits .or .u32 (bits .or .u32 (IntKind.wrap .u32 ((IntKind.wrap .u32 (List.getD b0_1 v3 0)) * 2 ^ 24)) (IntKind.wrap .u32 ((IntKind.wrap .u32 (List.getD b0_1 v9 0)) * 2 ^ 16))) (IntKind.wrap .u32 ((IntKind.wrap .u32 (List.getD b0_1 v16 0)) * 2 ^ 8))) (IntKind.wrap .u32 (List.getD b0_1 v23 0)))))
                    else
                      none
                  else
                    none
                else
                  none
              else
                none
            else
              none
          else
            none
        else
          none
      else
        none
    else
      none
  else
    some (t2, b0_0, b0_1, b2_0, b2_1, b4, b5, b6)
def f44.s0 (K : Nat) (rec : f44.Ty1 → Option (f44.Ty3)) (x : f44.Ty1) : Option (f44.Ty3) := f44.s0t K rec x.1 x.2.1 x.2.2.1 x.2.2.2.1 x.2.2.2.2.1 x.2.2.2.2.2.1 x.2.2.2.2.2.2.1 x.2.2.2.2.2.2.2.1 x.2.2.2.2.2.2.2.2.1 x.2.2.2.2.2.2.2.2.2
noncomputable def f44.s0.b : Code := (findLoop 0 f44.c).getD .skip
def f44.s0.h : Hint := { lv := [1, 2, 3, 6, 7, 8] }
def f44.s0.ho : Hint := { lv := [2, 3, 6, 7] }
def f44.s0.shp (x : f44.Ty1) : VS := ⟨[(1, .vw true 0 0 x.1 1), (2, .vw true 2 0 x.2.1 3), (3, .ptr 4 0), (6, .ptr 5 0), (7, .ptr 6 0), (8, .int .i64 x.2.2.1)], [(0, ([.ints .u8 x.2.2.2.1 x.2.2.2.2.1], 0, .ro)), (2, ([.ints .u32 x.2.2.2.2.2.1 x.2.2.2.2.2.2.1], 0, .ro)), (4, ([.ints .u32 8 x.2.2.2.2.2.2.2.1], 88, .norm)), (5, ([.ints .u32 8 x.2.2.2.2.2.2.2.2.1], 88, .norm)), (6, ([.ints .u32 64 x.2.2.2.2.2.2.2.2.2], 114, .norm))], 7⟩
def f44.s0.inX : VS → Option (f44.Ty1)
  | ⟨[(1, .vw true 0 0 t1 1), (2, .vw true 2 0 t2 3), (3, .ptr 4 0), (6, .ptr 5 0), (7, .ptr 6 0), (8, .int .i64 t8)], [(0, ([.ints .u8 b0_0 b0_1], 0, .ro)), (2, ([.ints .u32 b2_0 b2_1], 0, .ro)), (4, ([.ints .u32 8 b4], 88, .norm)), (5, ([.ints .u32 8 b5], 88, .norm)), (6, ([.ints .u32 64 b6], 114, .norm))], 7⟩ => some (t1, t2, t8, b0_0, b0_1, b2_0, b2_1, b4, b5, b6)
  | _ => none
def f44.s0.o0 (y : f44.Ty3) : VS := ⟨[(2, .vw true 2 0 y.1 3), (3, .ptr 4 0), (6, .ptr 5 0), (7, .ptr 6 0)], [(0, ([.ints .u8 y.2.1 y.2.2.1], 0, .ro)), (2, ([.ints .u32 y.2.2.2.1 y.2.2.2.2.1], 0, .ro)), (4, ([.ints .u32 8 y.2.2.2.2.2.1], 88, .norm)), (5, ([.ints .u32 8 y.2.2.2.2.2.2.1], 88, .norm)), (6, ([.ints .u32 64 y.2.2.2.2.2.2.2], 114, .norm))], 7⟩
def f44.s0.des : ∀ α : Type, (f44.Ty3) → (Ex → VS → Option α) → Option α := (des1 (.exit 0) f44.s0.o0)
def f44.s0.out : f44.Ty3 → Ex × VS := (fun y => (.exit 0, f44.s0.o0 y))
theorem f44.s0.desOK : ∀ α y (k : Ex → VS → Option α), f44.s0.des α y k = k (f44.s0.out y).1 (f44.s0.out y).2 := (fun _ _ _ => rfl)
def f44.s0.inY : Ex → VS → Option (f44.Ty3)
  | .exit 0, ⟨[(2, .vw true 2 0 t2 3), (3, .ptr 4 0), (6, .ptr 5 0), (7, .ptr 6 0)], [(0, ([.ints .u8 b0_0 b0_1], 0, .ro)), (2, ([.ints .u32 b2_0 b2_1], 0, .ro)), (4, ([.ints .u32 8 b4], 88, .norm)), (5, ([.ints .u32 8 b5], 88, .norm)), (6, ([.ints .u32 64 b6], 114, .norm))], 7⟩ => some (t2, b0_0, b0_1, b2_0, b2_1, b4, b5, b6)
  | _, _ => none
def f44.s2t (K : Nat) (rec : f44.Ty2 → Option (f44.Ty3)) (t2 : Nat) (t9 : Int) (b0_0 : Nat) (b0_1 : List Int) (b2_0 : Nat) (b2_1 : List Int) (b4 : List Int) (b5 : List Int) (b6 : List Int) : Option (f44.Ty3) :=
  bif (decide (t9 < 64)) then
    let v32 := IntKind.wrap .i64 (t9 - 15)
    bif decide (0 ≤ v32 ∧ v32 < 64) then
      let v34 := List.getD b6 (Int.toNat v32) 0
      let v35 := IntKind.wrap .i64 (t9 - 2)
      bif decide (0 ≤ v35 ∧ v35 < 64) then
        let v37 := List.getD b6 (Int.toNat v35) 0
        let v38 := IntKind.wrap .i64 (t9 - 16)
        bif decide (0 ≤ v38 ∧ v38 < 64) then
          let v41 := IntKind.wrap .i64 (t9 - 7)
          bif decide (0 ≤ v41 ∧ v41 < 64) then
            (f64.F K (v34, 7)).bind fun y45 =>
            (f64.F K (v34, 18)).bind fun y46 =>
            (f64.F K (v37, 17)).bind fun y51 =>
            (f64.F K (v37, 19)).bind fun y52 =>
            bif decide (0 ≤ t9 ∧ t9 < 64) then
              rec (t2, (IntKind.wrap .i64 (t9 + 1)), b0_0, b0_1, b2_0, b2_1, b4, b5, (setD b6 (Int.toNat t9) (IntKind.wrap .u32 ((IntKind.wrap .u32 ((IntKind.wrap .u32 ((List.getD b6 (Int.toNat v38) 0) + (List.getD b6 (Int.toNat v41) 0))) + (bits .xor .u32 (bits .xor .u32 y45 y46) (Int.fdiv v34 (2 ^ 3))))) + (bits .xor .u32 (bits .xor .u32 y51 y52) (Int.fdiv v37 (2 ^ 10)))))))
            else
              none
          else
            none
        else
          none
      else
        none
    else
      none
  else
    some (t2, b0_0, b0_1, b2_0, b2_1, b4, b5, b6)
def f44.s2 (K : Nat) (rec : f44.Ty2 → Option (f44.Ty3)) (x : f44.Ty2) : Option (f44.Ty3) := f44.s2t K rec x.1 x.2.1 x.2.2.1 x.2.2.2.1 x.2.2.2.2.1 x.2.2.2.2.2.1 x.2.2.2.2.2.2.1 x.2.2.2.2.2.2.2.1 x.2.2.2.2.2.2.2.2
noncomputable def f44.s2.b : Code := (findLoop 2 f44.c).getD .skip
def f44.s2.h : Hint := { lv := [2, 3, 6, 7, 9] }
def f44.s2.ho : Hint := { lv := [2, 3, 6, 7] }
def f44.s2.shp (x : f44.Ty2) : VS := ⟨[(2, .vw true 2 0 x.1 3), (3, .ptr 4 0), (6, .ptr 5 0), (7, .ptr 6 0), (9, .int .i64 x.2.1)], [(0, ([.ints .u8 x.2.2.1 x.2.2.2.1], 0, .ro)), (2, ([.ints .u32 x.2.2.2.2.1 x.2.2.2.2.2.1], 0, .ro)), (4, ([.ints .u32 8 x.2.2.2.2.2.2.1], 88, .norm)), (5, ([.ints .u32 8 x.2.2.2.2.2.2.2.1], 88, .norm)), (6, ([.ints .u32 64 x.2.2.2.2.2.2.2.2], 114, .norm))], 7⟩
def f44.s2.inX : VS → Option (f44.Ty2)
  | ⟨[(2, .vw true 2 0 t2 3), (3, .ptr 4 0), (6, .ptr 5 0), (7, .ptr 6 0), (9, .int .i64 t9)], [(0, ([.ints .u8 b0_0 b0_1], 0, .ro)), (2, ([.ints .u32 b2_0 b2_1], 0, .ro)), (4, ([.ints .u32 8 b4], 88, .norm)), (5, ([.ints .u32 8 b5], 88, .norm)), (6, ([.ints .u32 64 b6], 114, .norm))], 7⟩ => some (t2, t9, b0_0, b0_1, b2_0, b2_1, b4, b5, b6)
  | _ => none
def f44.s2.o0 (y : f44.Ty3) : VS := ⟨[(2, .vw true 2 0 y.1 3), (3, .ptr 4 0), (6, .ptr 5 0), (7, .ptr 6 0)], [(0, ([.ints .u8 y.2.1 y.2.2.1], 0, .ro)), (2, ([.ints .u32 y.2.2.2.1 y.2.2.2.2.1], 0, .ro)), (4, ([.ints .u32 8 y.2.2.2.2.2.1], 88, .norm)), (5, ([.ints .u32 8 y.2.2.2.2.2.2.1], 88, .norm)), (6, ([.ints .u32 64 y.2.2.2.2.2.2.2], 114, .norm))], 7⟩
def f44.s2.des : ∀ α : Type, (f44.Ty3) → (Ex → VS → Option α) → Option α := (des1 (.exit 2) f44.s2.o0)
def f44.s2.out : f44.Ty3 → Ex × VS := (fun y => (.exit 2, f44.s2.o0 y))
theorem f44.s2.desOK : ∀ α y (k : Ex → VS → Option α), f44.s2.des α y k = k (f44.s2.out y).1 (f44.s2.out y).2 := (fun _ _ _ => rfl)
def f44.s2.inY : Ex → VS → Option (f44.Ty3)
  | .exit 2, ⟨[(2, .vw true 2 0 t2 3), (3, .ptr 4 0), (6, .ptr 5 0), (7, .ptr 6 0)], [(0, ([.ints .u8 b0_0 b0_1], 0, .ro)), (2, ([.ints .u32 b2_0 b2_1], 0, .ro)), (4, ([.ints .u32 8 b4], 88, .norm)), (5, ([.ints .u32 8 b5], 88, .norm)), (6, ([.ints .u32 64 b6], 114, .norm))], 7⟩ => some (t2, b0_0, b0_1, b2_0, b2_1, b4, b5, b6)
  | _, _ => none
def f44.s4t (K : Nat) (rec : f44.Ty0 → Option (f44.Ty5)) (t2 : Nat) (t13 : Int) (b0_0 : Nat) (b0_1 : List Int) (b2_0 : Nat) (b2_1 : List Int) (b4 : List Int) (b5 : List Int) (b6 : List Int) (b7 : List Int) : Option (f44.Ty5) :=
  bif (decide (t13 < 64)) then
    let v63 := List.getD b7 0 0
    let v64 := List.getD b7 4 0
    (f64.F K (v64, 6)).bind fun y66 =>
    (f64.F K (v64, 11)).bind fun y67 =>
    (f64.F K (v64, 25)).bind fun y69 =>
    bif decide (0 ≤ t13 ∧ t13 < ((t2 : Nat) : Int)) then
      let v79 := 0 + (Int.toNat t13)
      bif Nat.blt v79 b2_0 then
        bif decide (0 ≤ t13 ∧ t13 < 64) then
          let v84 := IntKind.wrap .u32 ((IntKind.wrap .u32 ((IntKind.wrap .u32 ((IntKind.wrap .u32 ((List.getD b7 7 0) + (bits .xor .u32 (bits .xor .u32 y66 y67) y69))) + (bits .xor .u32 (bits .and .u32 v64 (List.getD b7 5 0)) (bits .and .u32 (bits .xor .u32 4294967295 v64) (List.getD b7 6 0))))) + (List.getD b2_1 v79 0))) + (List.getD b6 (Int.toNat t13) 0))
          (f64.F K (v63, 2)).bind fun y85 =>
          (f64.F K (v63, 13)).bind fun y86 =>
          (f64.F K (v63, 22)).bind fun y88 =>
          rec (t2, (IntKind.wrap .i64 (t13 + 1)), b0_0, b0_1, b2_0, b2_1, b4, b5, b6, [(IntKind.wrap .u32 (v84 + (IntKind.wrap .u32 ((bits .xor .u32 (bits .xor .u32 y85 y86) y88) + (bits .or .u32 (bits .or .u32 (bits .and .u32 v63 (List.getD b7 1 0)) (bits .and .u32 v63 (List.getD b7 2 0))) (bits .and .u32 (List.getD b7 1 0) (List.getD b7 2 0))))))), v63, (List.getD b7 1 0), (List.getD b7 2 0), (IntKind.wrap .u32 ((List.getD b7 3 0) + v84)), v64, (List.getD b7 5 0), (List.getD b7 6 0)])
        else
          none
      else
        none
    else
      none
  else
    some (b0_0, b0_1, b2_0, b2_1, b4, b5, b7)
def f44.s4 (K : Nat) (rec : f44.Ty0 → Option (f44.Ty5)) (x : f44.Ty0) : Option (f44.Ty5) := f44.s4t K rec x.1 x.2.1 x.2.2.1 x.2.2.2.1 x.2.2.2.2.1 x.2.2.2.2.2.1 x.2.2.2.2.2.2.1 x.2.2.2.2.2.2.2.1 x.2.2.2.2.2.2.2.2.1 x.2.2.2.2.2.2.2.2.2
noncomputable def f44.s4.b : Code := (findLoop 4 f44.c).getD .skip
def f44.s4.h : Hint := { lv := [2, 3, 6, 7, 12, 13] }
def f44.s4.ho : Hint := { lv := [3, 6, 12] }
def f44.s4.shp (x : f44.Ty0) : VS := ⟨[(2, .vw true 2 0 x.1 3), (3, .ptr 4 0), (6, .ptr 5 0), (7, .ptr 6 0), (12, .ptr 7 0), (13, .int .i64 x.2.1)], [(0, ([.ints .u8 x.2.2.1 x.2.2.2.1], 0, .ro)), (2, ([.ints .u32 x.2.2.2.2.1 x.2.2.2.2.2.1], 0, .ro)), (4, ([.ints .u32 8 x.2.2.2.2.2.2.1], 88, .norm)), (5, ([.ints .u32 8 x.2.2.2.2.2.2.2.1], 88, .norm)), (6, ([.ints .u32 64 x.2.2.2.2.2.2.2.2.1], 114, .norm)), (7, ([.ints .u32 8 x.2.2.2.2.2.2.2.2.2], 88, .norm))], 8⟩
def f44.s4.inX : VS → Option (f44.Ty0)
  | ⟨[(2, .vw true 2 0 t2 3), (3, .ptr 4 0), (6, .ptr 5 0), (7, .ptr 6 0), (12, .ptr 7 0), (13, .int .i64 t13)], [(0, ([.ints .u8 b0_0 b0_1], 0, .ro)), (2, ([.ints .u32 b2_0 b2_1], 0, .ro)), (4, ([.ints .u32 8 b4], 88, .norm)), (5, ([.ints .u32 8 b5], 88, .norm)), (6, ([.ints .u32 64 b6], 114, .norm)), (7, ([.ints .u32 8 b7], 88, .norm))], 8⟩ => some (t2, t13, b0_0, b0_1, b2_0, b2_1, b4, b5, b6, b7)
  | _ => none
def f44.s4.o0 (y : f44.Ty5) : VS := ⟨[(3, .ptr 4 0), (6, .ptr 5 0), (12, .ptr 6 0)], [(0, ([.ints .u8 y.1 y.2.1], 0, .ro)), (2, ([.ints .u32 y.2.2.1 y.2.2.2.1], 0, .ro)), (4, ([.ints .u32 8 y.2.2.2.2.1], 88, .norm)), (5, ([.ints .u32 8 y.2.2.2.2.2.1], 88, .norm)), (6, ([.ints .u32 8 y.2.2.2.2.2.2], 88, .norm))], 7⟩
def f44.s4.des : ∀ α : Type, (f44.Ty5) → (Ex → VS → Option α) → Option α := (des1 (.exit 4) f44.s4.o0)
def f44.s4.out : f44.Ty5 → Ex × VS := (fun y => (.exit 4, f44.s4.o0 y))
theorem f44.s4.desOK : ∀ α y (k : Ex → VS → Option α), f44.s4.des α y k = k (f44.s4.out y).1 (f44.s4.out y).2 := (fun _ _ _ => rfl)
def f44.s4.inY : Ex → VS → Option (f44.Ty5)
  | .exit 4, ⟨[(3, .ptr 4 0), (6, .ptr 5 0), (12, .ptr 6 0)], [(0, ([.ints .u8 b0_0 b0_1], 0, .ro)), (2, ([.ints .u32 b2_0 b2_1], 0, .ro)), (4, ([.ints .u32 8 b4], 88, .norm)), (5, ([.ints .u32 8 b5], 88, .norm)), (6, ([.ints .u32 8 b6], 88, .norm))], 7⟩ => some (b0_0, b0_1, b2_0, b2_1, b4, b5, b6)
  | _, _ => none
def f44.s6t (_K : Nat) (rec : f44.Ty4 → Option (f44.Ty7)) (t18 : Int) (b0_0 : Nat) (b0_1 : List Int) (b2_0 : Nat) (b2_1 : List Int) (b4 : List Int) (b5 : List Int) (b6 : List Int) : Option (f44.Ty7) :=
  bif (decide (t18 < 8)) then
    bif decide (0 ≤ t18 ∧ t18 < 8) then
      bif decide (0 ≤ t18 ∧ t18 < 8) then
        bif decide (0 ≤ t18 ∧ t18 < 8) then
          rec ((IntKind.wrap .i64 (t18 + 1)), b0_0, b0_1, b2_0, b2_1, b4, b5, (setD b6 (Int.toNat t18) (IntKind.wrap .u32 ((List.getD b6 (Int.toNat t18) 0) + (List.getD b4 (Int.toNat t18) 0)))))
        else
          none
      else
        none
    else
      none
  else
    some (b0_0, b0_1, b2_0, b2_1, b5, b6)
def f44.s6 (K : Nat) (rec : f44.Ty4 → Option (f44.Ty7)) (x : f44.Ty4) : Option (f44.Ty7) := f44.s6t K rec x.1 x.2.1 x.2.2.1 x.2.2.2.1 x.2.2.2.2.1 x.2.2.2.2.2.1 x.2.2.2.2.2.2.1 x.2.2.2.2.2.2.2
noncomputable def f44.s6.b : Code := (findLoop 6 f44.c).getD .skip
def f44.s6.h : Hint := { lv := [3, 6, 12, 18] }
def f44.s6.ho : Hint := { lv := [6, 12] }
def f44.s6.shp (x : f44.Ty4) : VS := ⟨[(3, .ptr 4 0), (6, .ptr 5 0), (12, .ptr 6 0), (18, .int .i64 x.1)], [(0, ([.ints .u8 x.2.1 x.2.2.1], 0, .ro)), (2, ([.ints .u32 x.2.2.2.1 x.2.2.2.2.1], 0, .ro)), (4, ([.ints .u32 8 x.2.2.2.2.2.1], 88, .norm)), (5, ([.ints .u32 8 x.2.2.2.2.2.2.1], 88, .norm)), (6, ([.ints .u32 8 x.2.2.2.2.2.2.2], 88, .norm))], 7⟩
def f44.s6.inX : VS → Option (f44.Ty4)
  | ⟨[(3, .ptr 4 0), (6, .ptr 5 0), (12, .ptr 6 0), (18, .int .i64 t18)], [(0, ([.ints .u8 b0_0 b0_1], 0, .ro)), (2, ([.ints .u32 b2_0 b2_1], 0, .ro)), (4, ([.ints .u32 8 b4], 88, .norm)), (5, ([.ints .u32 8 b5], 88, .norm)), (6, ([.ints .u32 8 b6], 88, .norm))], 7⟩ => some (t18, b0_0, b0_1, b2_0, b2_1, b4, b5, b6)
  | _ => none
def f44.s6.o0 (y : f44.Ty7) : VS := ⟨[(6, .ptr 4 0), (12, .ptr 5 0)], [(0, ([.ints .u8 y.1 y.2.1], 0, .ro)), (2, ([.ints .u32 y.2.2.1 y.2.2.2.1], 0, .ro)), (4, ([.ints .u32 8 y.2.2.2.2.1], 88, .norm)), (5, ([.ints .u32 8 y.2.2.2.2.2], 88, .norm))], 6⟩
def f44.s6.des : ∀ α : Type, (f44.Ty7) → (Ex → VS → Option α) → Option α := (des1 (.exit 6) f44.s6.o0)
def f44.s6.out : f44.Ty7 → Ex × VS := (fun y => (.exit 6, f44.s6.o0 y))
theorem f44.s6.desOK : ∀ α y (k : Ex → VS → Option α), f44.s6.des α y k = k (f44.s6.out y).1 (f44.s6.out y).2 := (fun _ _ _ => rfl)
def f44.s6.inY : Ex → VS → Option (f44.Ty7)
  | .exit 6, ⟨[(6, .ptr 4 0), (12, .ptr 5 0)], [(0, ([.ints .u8 b0_0 b0_1], 0, .ro)), (2, ([.ints .u32 b2_0 b2_1], 0, .ro)), (4, ([.ints .u32 8 b4], 88, .norm)), (5, ([.ints .u32 8 b5], 88, .norm))], 6⟩ => some (b0_0, b0_1, b2_0, b2_1, b4, b5)
  | _, _ => none
def f44.lp (K : Nat) : Nat → Option (Hint × Summ) := tabLp [(0, f44.s0.h, summOf (iter (f44.s0 K) K) f44.s0.inX f44.s0.des), (2, f44.s2.h, summOf (iter (f44.s2 K) K) f44.s2.inX f44.s2.des), (4, f44.s4.h, summOf (iter (f44.s4 K) K) f44.s4.inX f44.s4.des), (6, f44.s6.h, summOf (iter (f44.s6 K) K) f44.s6.inX f44.s6.des)]
noncomputable def f44.tab (K : Nat) : List (Nat × Entry) := [(64, (f64.E K))]
theorem f44.tabOK (K : Nat) : SpecOK Try.prog (tabSp (f44.tab K)) := tab_ok ((tab_cons (f64.ok K) tab_nil))
theorem f44.s0.eq (K : Nat) (rec : f44.Ty1 → Option (f44.Ty3)) (x : f44.Ty1) : f44.s0 K rec x = roundL (getA tys) (tabSp (f44.tab K)) 195 4 (f44.lp K) 400 f44.s0.b f44.s0.h f44.s0.ho f44.s0.shp f44.s0.inX f44.s0.inY rec x := by kernel_rfl
theorem f44.s0.lok (K : Nat) : LoopsOK Try.prog 195 4 (f44.lp K) f44.s0.b := loops_ok (by
  have h : loopsIn (f44.lp K) f44.s0.b = [] := by kernel_rfl
  rw [h]; simp)
theorem f44.s0.ok (K : Nat) : SummOK Try.prog 195 4 (summOf (iter (f44.s0 K) K) f44.s0.inX f44.s0.des) f44.s0.b :=
  loop_ok mix tys_ok (f44.tabOK K) (h := f44.s0.h) (ho := f44.s0.ho) (shp := f44.s0.shp) (inX := f44.s0.inX) (des := f44.s0.des) (out := f44.s0.out) (inY := f44.s0.inY) (fuel := 400)
    (by intro st x h; unfold f44.s0.inX at h; split at h <;> simp at h; subst h; rfl)
    (by intro e st y h; unfold f44.s0.inY at h; split at h <;> simp at h <;> subst h <;> rfl)
    f44.s0.desOK (f44.s0.lok K) (f44.s0 K) (f44.s0.eq K) K
theorem f44.s2.eq (K : Nat) (rec : f44.Ty2 → Option (f44.Ty3)) (x : f44.Ty2) : f44.s2 K rec x = roundL (getA tys) (tabSp (f44.tab K)) 195 4 (f44.lp K) 400 f44.s2.b f44.s2.h f44.s2.ho f44.s2.shp f44.s2.inX f44.s2.inY rec x := by kernel_rfl
theorem f44.s2.lok (K : Nat) : LoopsOK Try.prog 195 4 (f44.lp K) f44.s2.b := loops_ok (by
  have h : loopsIn (f44.lp K) f44.s2.b = [] := by kernel_rfl
  rw [h]; simp)
theorem f44.s2.ok (K : Nat) : SummOK Try.prog 195 4 (summOf (iter (f44.s2 K) K) f44.s2.inX f44.s2.des) f44.s2.b :=
  loop_ok mix tys_ok (f44.tabOK K) (h := f44.s2.h) (ho := f44.s2.ho) (shp := f44.s2.shp) (inX := f44.s2.inX) (des := f44.s2.des) (out := f44.s2.out) (inY := f44.s2.inY) (fuel := 400)
    (by intro st x h; unfold f44.s2.inX at h; split at h <;> simp at h; subst h; rfl)
    (by intro e st y h; unfold f44.s2.inY at h; split at h <;> simp at h <;> subst h <;> rfl)
    f44.s2.desOK (f44.s2.lok K) (f44.s2 K) (f44.s2.eq K) K
theorem f44.s4.eq (K : Nat) (rec : f44.Ty0 → Option (f44.Ty5)) (x : f44.Ty0) : f44.s4 K rec x = roundL (getA tys) (tabSp (f44.tab K)) 195 4 (f44.lp K) 400 f44.s4.b f44.s4.h f44.s4.ho f44.s4.shp f44.s4.inX f44.s4.inY rec x := by kernel_rfl
theorem f44.s4.lok (K : Nat) : LoopsOK Try.prog 195 4 (f44.lp K) f44.s4.b := loops_ok (by
  have h : loopsIn (f44.lp K) f44.s4.b = [] := by kernel_rfl
  rw [h]; simp)
theorem f44.s4.ok (K : Nat) : SummOK Try.prog 195 4 (summOf (iter (f44.s4 K) K) f44.s4.inX f44.s4.des) f44.s4.b :=
  loop_ok mix tys_ok (f44.tabOK K) (h := f44.s4.h) (ho := f44.s4.ho) (shp := f44.s4.shp) (inX := f44.s4.inX) (des := f44.s4.des) (out := f44.s4.out) (inY := f44.s4.inY) (fuel := 400)
    (by intro st x h; unfold f44.s4.inX at h; split at h <;> simp at h; subst h; rfl)
    (by intro e st y h; unfold f44.s4.inY at h; split at h <;> simp at h <;> subst h <;> rfl)
    f44.s4.desOK (f44.s4.lok K) (f44.s4 K) (f44.s4.eq K) K
theorem f44.s6.eq (K : Nat) (rec : f44.Ty4 → Option (f44.Ty7)) (x : f44.Ty4) : f44.s6 K rec x = roundL (getA tys) (tabSp (f44.tab K)) 195 4 (f44.lp K) 400 f44.s6.b f44.s6.h f44.s6.ho f44.s6.shp f44.s6.inX f44.s6.inY rec x := by kernel_rfl
theorem f44.s6.lok (K : Nat) : LoopsOK Try.prog 195 4 (f44.lp K) f44.s6.b := loops_ok (by
  have h : loopsIn (f44.lp K) f44.s6.b = [] := by kernel_rfl
  rw [h]; simp)
theorem f44.s6.ok (K : Nat) : SummOK Try.prog 195 4 (summOf (iter (f44.s6 K) K) f44.s6.inX f44.s6.des) f44.s6.b :=
  loop_ok mix tys_ok (f44.tabOK K) (h := f44.s6.h) (ho := f44.s6.ho) (shp := f44.s6.shp) (inX := f44.s6.inX) (des := f44.s6.des) (out := f44.s6.out) (inY := f44.s6.inY) (fuel := 400)
    (by intro st x h; unfold f44.s6.inX at h; split at h <;> simp at h; subst h; rfl)
    (by intro e st y h; unfold f44.s6.inY at h; split at h <;> simp at h <;> subst h <;> rfl)
    f44.s6.desOK (f44.s6.lok K) (f44.s6 K) (f44.s6.eq K) K
theorem f44.loops (K : Nat) : LoopsOK Try.prog 195 4 (f44.lp K) f44.c := loops_ok (by
  have h : loopsIn (f44.lp K) f44.c = [(0, f44.s0.b), (2, f44.s2.b), (4, f44.s4.b), (6, f44.s6.b)] := by kernel_rfl
  rw [h]
  intro p hp
  simp only [List.mem_cons, List.not_mem_nil, or_false] at hp
  rcases hp with rfl | rfl | rfl | rfl
  · exact ⟨_, rfl, (f44.s0.ok K)⟩
  · exact ⟨_, rfl, (f44.s2.ok K)⟩
  · exact ⟨_, rfl, (f44.s4.ok K)⟩
  · exact ⟨_, rfl, (f44.s6.ok K)⟩)
def f44.T (K : Nat) (a0 : List Int) (a1 : Nat) (a2 : Nat) (m0_0 : Nat) (m0_1 : List Int) (m2_0 : Nat) (m2_1 : List Int) : Option (f44.Ty8) :=
  (iter (f44.s0 K) K (a1, a2, 0, m0_0, m0_1, m2_0, m2_1, a0, [0, 0, 0, 0, 0, 0, 0, 0], [0, 0, 0, 0, 0, 0, 0, 0, 0, 0, 0, 0, 0, 0, 0, 0, 0, 0, 0, 0, 0, 0, 0, 0, 0, 0, 0, 0, 0, 0, 0, 0, 0, 0, 0, 0, 0, 0, 0, 0, 0, 0, 0, 0, 0, 0, 0, 0, 0, 0, 0, 0, 0, 0, 0, 0, 0, 0, 0, 0, 0, 0, 0, 0])).bind fun y30 =>
  (iter (f44.s2 K) K (y30.1, 16, y30.2.1, y30.2.2.1, y30.2.2.2.1, y30.2.2.2.2.1, y30.2.2.2.2.2.1, y30.2.2.2.2.2.2.1, y30.2.2.2.2.2.2.2)).bind fun y60 =>
  (iter (f44.s4 K) K (y60.1, 0, y60.2.1, y60.2.2.1, y60.2.2.2.1, y60.2.2.2.2.1, y60.2.2.2.2.2.1, y60.2.2.2.2.2.2.1, y60.2.2.2.2.2.2.2, y60.2.2.2.2.2.1)).bind fun y108 =>
  (iter (f44.s6 K) K (0, y108.1, y108.2.1, y108.2.2.1, y108.2.2.2.1, y108.2.2.2.2.1, y108.2.2.2.2.2.1, y108.2.2.2.2.2.2)).bind fun y118 =>
  some (y118.2.2.2.2.2, y118.1, y118.2.1, y118.2.2.1, y118.2.2.2.1)
def f44.F (K : Nat) (x : f44.Ty6) : Option (f44.Ty8) := f44.T K x.1 x.2.1 x.2.2.1 x.2.2.2.1 x.2.2.2.2.1 x.2.2.2.2.2.1 x.2.2.2.2.2.2
def f44.av (x : f44.Ty6) : List VV := [.agg [.ints .u32 8 x.1], .vw true 0 0 x.2.1 1, .vw true 2 0 x.2.2.1 3]
def f44.bl (x : f44.Ty6) : List (Nat × Blk) := [(0, ([.ints .u8 x.2.2.2.1 x.2.2.2.2.1], 0, .ro)), (2, ([.ints .u32 x.2.2.2.2.2.1 x.2.2.2.2.2.2], 0, .ro))]
def f44.inA : VS → Option (f44.Ty6)
  | ⟨[(0, .agg [.ints .u32 8 a0]), (1, .vw true 0 0 a1 1), (2, .vw true 2 0 a2 3)], [(0, ([.ints .u8 m0_0 m0_1], 0, .ro)), (2, ([.ints .u32 m2_0 m2_1], 0, .ro))], 4⟩ => some (a0, a1, a2, m0_0, m0_1, m2_0, m2_1)
  | _ => none
def f44.o0 (y : f44.Ty8) : VS := ⟨[(0, .agg [.ints .u32 8 y.1])], [(0, ([.ints .u8 y.2.1 y.2.2.1], 0, .ro)), (2, ([.ints .u32 y.2.2.2.1 y.2.2.2.2], 0, .ro))], 4⟩
def f44.des : ∀ α : Type, (f44.Ty8) → (VS → Option α) → Option α := (dv1 f44.o0)
def f44.out : f44.Ty8 → VS := f44.o0
def f44.inR : VS → Option (f44.Ty8)
  | ⟨[(0, .agg [.ints .u32 8 y])], [(0, ([.ints .u8 z0_0 z0_1], 0, .ro)), (2, ([.ints .u32 z2_0 z2_1], 0, .ro))], 4⟩ => some (y, z0_0, z0_1, z2_0, z2_1)
  | _ => none
noncomputable def f44.E (K : Nat) : Entry := genE 4 f44.inA (f44.F K) f44.des
theorem f44.eq (K : Nat) (x : f44.Ty6) : f44.F K x = xrun (getA tys) (tabSp (f44.tab K)) Try.f44.ntmps 4 (f44.lp K) 400 f44.c ⟨initL 0 (f44.av x), f44.bl x, 4⟩ (contF (getA tys) 4 Try.f44.results.toList f44.inR) := by kernel_rfl
theorem f44.ok (K : Nat) : EntryOK Try.prog 44 (f44.E K) :=
  gen_ok mix tys_ok (f44.tabOK K) Try.func44 (by kernel_rfl : Try.f44.body = some f44.c) (by kernel_rfl) (f44.loops K) (av := f44.av) (bl := f44.bl) (out := f44.out) (fuel := 400)
    (by intro s x h; unfold f44.inA at h; split at h <;> simp at h; subst h; rfl) (fun _ => Nat.le_of_ble_eq_true rfl)
    (by intro s y h; unfold f44.inR at h; split at h <;> simp at h <;> subst h <;> rfl) (fun _ _ _ => rfl) (f44.eq K)
end Go.Proofs

namespace Go.Proofs
open Go.VM
theorem f64.spec (K : Nat) (x : Int) (n : Nat) (h1 : 1 ≤ n) (h2 : n ≤ 31) : f64.F K (x, (n : Int)) = some (Rf.round x n) := by
  simp only [f64.F, f64.T]
  rw [decide_eq_true (show (0 : Int) ≤ (n : Int) by omega), cond_t, wrap_u _ (by omega) (by omega), decide_eq_true (show (0 : Int) ≤ 32 - (n : Int) by omega), cond_t, Rf.round, show (32 : Int) - (n : Int) = ((32 - n : Nat) : Int) by omega]
theorem four_octets (a b c d : Nat) (ha : a < 256) (hb : b < 256) (hc : c < 256) (hd : d < 256) :
    bits .or .u32 (bits .or .u32 (bits .or .u32 (IntKind.wrap .u32 ((IntKind.wrap .u32 (a : Int)) * 2 ^ 24)) (IntKind.wrap .u32 ((IntKind.wrap .u32 (b : Int)) * 2 ^ 16))) (IntKind.wrap .u32 ((IntKind.wrap .u32 (c : Int)) * 2 ^ 8))) (IntKind.wrap .u32 (d : Int)) = ((a * 2 ^ 24 + b * 2 ^ 16 + c * 2 ^ 8 + d : Nat) : Int) := by
  have w : ∀ z : Nat, z < 4294967296 → IntKind.wrap .u32 (z : Int) = (z : Int) := wrap_32n
  have o : ∀ x y : Nat, x < 4294967296 → y < 4294967296 → bits .or .u32 (x : Int) (y : Int) = ((x ||| y : Nat) : Int) := by
    intro x y hx hy
    rw [bits_or, BitVec.toNat_or]
    simp only [bv, BitVec.ofInt_natCast, BitVec.toNat_ofNat]
    rw [Nat.mod_eq_of_lt (by omega), Nat.mod_eq_of_lt (by omega)]
  have oa : ∀ x y k : Nat, y < 2 ^ k → x * 2 ^ k ||| y = x * 2 ^ k + y := fun x y k h => by
    have := Nat.shiftLeft_add_eq_or_of_lt h x
    rw [Nat.shiftLeft_eq] at this
    exact this.symm
  rw [w a (by omega), w b (by omega), w c (by omega), w d (by omega), show (a : Int) * 2 ^ 24 = ((a * 2 ^ 24 : Nat) : Int) by omega, show (b : Int) * 2 ^ 16 = ((b * 2 ^ 16 : Nat) : Int) by omega, show (c : Int) * 2 ^ 8 = ((c * 2 ^ 8 : Nat) : Int) by omega,
    w _ (by omega), w _ (by omega), w _ (by omega), o _ _ (by omega) (by omega), oa a (b * 2 ^ 16) 24 (by omega), show a * 2 ^ 24 + b * 2 ^ 16 = (a * 2 ^ 8 + b) * 2 ^ 16 by omega, o _ _ (by omega) (by omega), oa _ (c * 2 ^ 8) 16 (by omega),
    show (a * 2 ^ 8 + b) * 2 ^ 16 + c * 2 ^ 8 = ((a * 2 ^ 8 + b) * 2 ^ 8 + c) * 2 ^ 8 by omega, o _ _ (by omega) (by omega), oa _ d 8 (by omega)]
theorem getD_oct {b : List Int} (ho : octets b) (i : Nat) : ∃ n : Nat, n < 256 ∧ b.getD i 0 = (n : Int) := by
  rw [List.getD_eq_getElem?_getD]
  cases e : b[i]? with
  | none => exact ⟨0, by decide, rfl⟩
  | some y => obtain ⟨h1, h2⟩ := ho y (List.mem_of_getElem? e); exact ⟨y.toNat, by omega, by simp; omega⟩
theorem tv_four (b : List Int) (ho : octets b) (t : Nat) : ((tv (subI b (4 * t) 4) : Nat) : Int) = ((( (b.getD (4 * t) 0).toNat * 2 ^ 24 + (b.getD (4 * t + 1) 0).toNat * 2 ^ 16 + (b.getD (4 * t + 2) 0).toNat * 2 ^ 8 + (b.getD (4 * t + 3) 0).toNat : Nat)) : Int) := by
  simp only [subI, List.range, List.range.loop, List.map_cons, List.map_nil, tv, List.foldl_cons, List.foldl_nil, Nat.add_zero]
  congr 1
  omega
def Rf.tab (b : List Int) (i : Nat) : List Int := (List.range 64).map fun k => if k < i then Rf.w b k else 0
theorem Rf.tab_at (b : List Int) (i k : Nat) (hk : k < 64) (hi : k < i) : (Rf.tab b i).getD k 0 = Rf.w b k := by
  simp [Rf.tab, List.getD_eq_getElem?_getD, hk, hi]
theorem Rf.tab_set (b : List Int) (i : Nat) (hi : i < 64) : setD (Rf.tab b i) i (Rf.w b i) = Rf.tab b (i + 1) := by
  have hl : ∀ j, (Rf.tab b j).length = 64 := fun j => by simp [Rf.tab]
  refine ext_getD (by rw [length_setD (by rw [hl]; exact hi), hl, hl]) fun k hk => ?_
  rw [length_setD (by rw [hl]; exact hi), hl] at hk
  rw [setD_at _ _ _ _ (by rw [hl]; exact hi)]
  by_cases h : k = i
  · subst h; rw [if_pos rfl, Rf.tab_at _ _ _ hk (by omega)]
  · rw [if_neg h]
    by_cases h2 : k < i
    · rw [Rf.tab_at _ _ _ hk h2, Rf.tab_at _ _ _ hk (by omega)]
    · simp [Rf.tab, List.getD_eq_getElem?_getD, hk, h2, show ¬ k < i + 1 by omega]
theorem f44.first (K : Nat) (a2 : Nat) (b k4 z5 : List Int) (ho : octets b) (hb : b.length = 64) (hK : 16 < K) (k2 : Nat) (k2l : List Int) :
    iter (f44.s0 K) K (64, a2, 0, 64, b, k2, k2l, k4, z5, Rf.tab b 0) = some (a2, 64, b, k2, k2l, k4, z5, Rf.tab b 16) := by
  have := iter_for (stp := f44.s0 K) (N := 16) (fun i => (64, a2, (i : Int), 64, b, k2, k2l, k4, z5, Rf.tab b i)) (y := some (a2, 64, b, k2, k2l, k4, z5, Rf.tab b 16)) ?_ ?_ hK
  · exact this
  · intro i hi rec
    simp only [f44.s0, f44.s0t]
    have e : ∀ j : Nat, j < 4 → IntKind.wrap .i64 ((IntKind.wrap .i64 (4 * (i : Int))) + (j : Int)) = ((4 * i + j : Nat) : Int) := fun j hj => by
      rw [wrap_i (4 * (i : Int)) (by omega) (by omega), wrap_i _ (by omega) (by omega)]; omega
    have e0 : IntKind.wrap .i64 (4 * (i : Int)) = ((4 * i : Nat) : Int) := by rw [wrap_i _ (by omega) (by omega)]; omega
    have e1 := e 1 (by omega)
    have e2 := e 2 (by omega)
    have e3 := e 3 (by omega)
    rw [show ((1 : Nat) : Int) = 1 from rfl] at e1
    rw [show ((2 : Nat) : Int) = 2 from rfl] at e2
    rw [show ((3 : Nat) : Int) = 3 from rfl] at e3
    have bl : ∀ x, x < 64 → Nat.blt (0 + x) 64 = true := fun x hx => by simp [Nat.blt_eq]; omega
    have dc : ∀ x : Nat, x < 64 → decide ((0 : Int) ≤ (x : Int) ∧ (x : Int) < ((64 : Nat) : Int)) = true := fun x hx => decide_eq_true (by omega)
    obtain ⟨n0, h0, g0⟩ := getD_oct ho (4 * i)
    obtain ⟨n1, h1, g1⟩ := getD_oct ho (4 * i + 1)
    obtain ⟨n2, h2, g2⟩ := getD_oct ho (4 * i + 2)
    obtain ⟨n3, h3, g3⟩ := getD_oct ho (4 * i + 3)
    have hW : Rf.w b i = ((n0 * 2 ^ 24 + n1 * 2 ^ 16 + n2 * 2 ^ 8 + n3 : Nat) : Int) := by
      rw [Rf.w_low b i hi, tv_four b ho, g0, g1, g2, g3]
      simp only [Int.toNat_natCast]
      exact wrap_32n _ (by omega)
    simp only [e1, e2, e3]
    rw [decide_eq_true (show (i : Int) < 16 by omega), cond_t]
    simp only [e0, Int.toNat_natCast]
    rw [dc _ (by omega), cond_t, bl _ (by omega), cond_t, dc _ (by omega), cond_t, bl _ (by omega), cond_t, dc _ (by omega), cond_t, bl _ (by omega), cond_t, dc _ (by omega), cond_t, bl _ (by omega), cond_t, decide_eq_true (show (0 : Int) ≤ (i : Int) ∧ (i : Int) < 64 by omega), cond_t]
    simp only [Nat.zero_add]
    rw [g0, g1, g2, g3, four_octets _ _ _ _ h0 h1 h2 h3, ← hW, Rf.tab_set b i (by omega), wrap_i _ (by omega) (by omega)]
    rfl
  · intro rec
    simp only [f44.s0, f44.s0t]
    rfl
theorem f44.second (K : Nat) (a2 : Nat) (b k4 z5 : List Int) (hK : 64 < K) (k2 : Nat) (k2l : List Int) :
    iter (f44.s2 K) K (a2, 16, 64, b, k2, k2l, k4, z5, Rf.tab b 16) = some (a2, 64, b, k2, k2l, k4, z5, Rf.tab b 64) := by
  have := iter_for (stp := f44.s2 K) (N := 48) (fun i => (a2, ((16 + i : Nat) : Int), 64, b, k2, k2l, k4, z5, Rf.tab b (16 + i))) (y := some (a2, 64, b, k2, k2l, k4, z5, Rf.tab b 64)) ?_ ?_ (show 48 < K by omega)
  · exact this
  · intro j hj rec
    generalize hi : 16 + j = i
    rw [show 16 + (j + 1) = i + 1 by omega]
    simp only [f44.s2, f44.s2t]
    have e : ∀ j : Nat, j ≤ 16 → IntKind.wrap .i64 ((i : Int) - (j : Int)) = ((i - j : Nat) : Int) := fun j hj => by rw [wrap_i _ (by omega) (by omega)]; omega
    have e15 := e 15 (by omega)
    have e2 := e 2 (by omega)
    have e16 := e 16 (by omega)
    have e7 := e 7 (by omega)
    rw [show ((15 : Nat) : Int) = 15 from rfl] at e15
    rw [show ((2 : Nat) : Int) = 2 from rfl] at e2
    rw [show ((16 : Nat) : Int) = 16 from rfl] at e16
    rw [show ((7 : Nat) : Int) = 7 from rfl] at e7
    have dc : ∀ x : Nat, x < 64 → decide ((0 : Int) ≤ (x : Int) ∧ (x : Int) < 64) = true := fun x hx => decide_eq_true (by omega)
    simp only [e15, e2, e16, e7, Int.toNat_natCast]
    rw [decide_eq_true (show (i : Int) < 64 by omega), cond_t, dc _ (by omega), cond_t, dc _ (by omega), cond_t, dc _ (by omega), cond_t, dc _ (by omega), cond_t]
    rw [show ((18 : Int)) = ((18 : Nat) : Int) from rfl, show ((17 : Int)) = ((17 : Nat) : Int) from rfl, show ((19 : Int)) = ((19 : Nat) : Int) from rfl]
    rw [show ∀ x, f64.F K (x, 7) = some (Rf.round x 7) from fun x => f64.spec K x 7 (by omega) (by omega), bind_s, f64.spec K _ 18 (by omega) (by omega), bind_s, f64.spec K _ 17 (by omega) (by omega), bind_s, f64.spec K _ 19 (by omega) (by omega), bind_s, dc _ (by omega), cond_t,
      Rf.tab_at b i (i - 15) (by omega) (by omega), Rf.tab_at b i (i - 2) (by omega) (by omega), Rf.tab_at b i (i - 16) (by omega) (by omega), Rf.tab_at b i (i - 7) (by omega) (by omega)]
    have hW := Rf.w_high b i (by omega)
    unfold Rf.s0 Rf.s1 at hW
    rw [← hW, Rf.tab_set b i (by omega), wrap_i _ (by omega) (by omega)]
    rfl
  · intro rec
    simp only [f44.s2, f44.s2t]
    rfl
end Go.Proofs

namespace Go.Proofs
open Go.VM
abbrev f29.Ty0 := Int × Int × List Int × List Int × List Int × List Int
def f29.k0 : ByteArray := ByteArray.mk #[119, 111, 114, 107]
def f29.T (K : Nat) (a0_0 : Int) (_a0_1 : Int) (a0_2 : List Int) (a1 : List Int) (a2 : List Int) (a3 : List Int) : Option (Bool) :=
  bif (decide (a0_0 > 12)) then
    some false
  else
    (f50.F K (f29.k0, 32, 16, 16, 32, 32, (subI a0_2 0 32), 16, (subI a1 0 16), 16, (subI a2 0 16), 32, (subI a3 0 32))).bind fun y2 =>
    bif decide (0 ≤ a0_0) then
      some ((bits .and .u32 (bits .or .u32 (IntKind.wrap .u32 ((IntKind.wrap .u32 (List.getD y2.1 30 0)) * 2 ^ 8)) (IntKind.wrap .u32 (List.getD y2.1 31 0))) (IntKind.wrap .u32 ((shiftI .shl .u32 1 a0_0) - 1))) == 0)
    else
      none
def f29.F (K : Nat) (x : f29.Ty0) : Option (Bool) := f29.T K x.1 x.2.1 x.2.2.1 x.2.2.2.1 x.2.2.2.2.1 x.2.2.2.2.2
def f29.av (x : f29.Ty0) : List VV := [.agg [.int .u8 x.1, .int .u64 x.2.1, .ints .u8 32 x.2.2.1], .agg [.ints .u8 16 x.2.2.2.1], .agg [.ints .u8 16 x.2.2.2.2.1], .agg [.ints .u8 32 x.2.2.2.2.2]]
def f29.bl (_x : f29.Ty0) : List (Nat × Blk) := []
def f29.inA : VS → Option (f29.Ty0)
  | ⟨[(0, .agg [.int .u8 a0_0, .int .u64 a0_1, .ints .u8 32 a0_2]), (1, .agg [.ints .u8 16 a1]), (2, .agg [.ints .u8 16 a2]), (3, .agg [.ints .u8 32 a3])], [], 0⟩ => some (a0_0, a0_1, a0_2, a1, a2, a3)
  | _ => none
def f29.o0 (y : Bool) : VS := ⟨[(0, .bool y)], [], 0⟩
def f29.inR : VS → Option (Bool)
  | ⟨[(0, .bool y)], [], 0⟩ => some y
  | _ => none
noncomputable def f29.E (K : Nat) : Entry := genE 0 f29.inA (f29.F K) (dv1 f29.o0)
theorem f29.ok (K : Nat) : EntryOK Try.prog 29 (f29.E K) := gen_ok mix tys_ok (sp := tabSp [(50, (rowsE 1 .u8 (f50.E K)))]) (tab_ok ((tab_cons (rows_ok (f50.ok K)) tab_nil))) Try.func29 (c := bodyOf Try.f29) (by kernel_rfl) (by kernel_rfl) (loops_none (lp := lpNone) (by kernel_rfl)) (av := f29.av) (bl := f29.bl) (inR := f29.inR) (out := f29.o0) (fuel := 400)
  (by intro s x h; unfold f29.inA at h; split at h <;> simp at h; subst h; rfl) (fun _ => Nat.le_of_ble_eq_true rfl)
  (by intro s y h; unfold f29.inR at h; split at h <;> simp at h <;> subst h <;> rfl) (fun _ _ _ => rfl) (fun _ => by kernel_rfl)
end Go.Proofs

namespace Go.Proofs
open Go.VM
abbrev f24.Ty0 := List Int × Int × Int × List Int × List Int × Int
abbrev f24.Ty1 := Int × Int × List Int × Int
def f24.T (K : Nat) (a0 : List Int) (a1 : Int) (a2 : Int) (a3 : List Int) (a4 : List Int) (a5 : Int) : Option (f24.Ty1) :=
  bif (decide (a2 > 12)) then
    some (0, 0, [0, 0, 0, 0, 0, 0, 0, 0, 0, 0, 0, 0, 0, 0, 0, 0, 0, 0, 0, 0, 0, 0, 0, 0, 0, 0, 0, 0, 0, 0, 0, 0], 1)
  else
    bif (a5 == 0) then
      some (0, 0, [0, 0, 0, 0, 0, 0, 0, 0, 0, 0, 0, 0, 0, 0, 0, 0, 0, 0, 0, 0, 0, 0, 0, 0, 0, 0, 0, 0, 0, 0, 0, 0], 1)
    else
      (f41.F K (0, a1, 8, 0, [])).bind fun y2 =>
      (f41.F K (0, (IntKind.wrap .u64 a5), 4, 0, [])).bind fun y4 =>
      bif ((Nat.ble (0 + y2.1) y2.2.2.2.2.1 && (Nat.ble y2.1 y2.2.1)) && ((Nat.ble (0 + y4.1) y4.2.2.2.2.1 && (Nat.ble y4.1 y4.2.1)) && true)) then
        (f22.F K (32, 32, (subI a0 0 32), 6, y2.1, 1, 16, 16, y4.1, 6, [112, 117, 122, 122, 108, 101], y2.1, (subI y2.2.2.2.2.2 0 y2.1), 1, [a2], 16, (subI a3 0 16), 16, (subI a4 0 16), y4.1, (subI y4.2.2.2.2.2 0 y4.1))).bind fun y5 =>
        some (a2, a1, y5.1, 0)
      else
        none
def f24.F (K : Nat) (x : f24.Ty0) : Option (f24.Ty1) := f24.T K x.1 x.2.1 x.2.2.1 x.2.2.2.1 x.2.2.2.2.1 x.2.2.2.2.2
def f24.av (x : f24.Ty0) : List VV := [.agg [.ints .u8 32 x.1], .int .u64 x.2.1, .int .u8 x.2.2.1, .agg [.ints .u8 16 x.2.2.2.1], .agg [.ints .u8 16 x.2.2.2.2.1], .int .u32 x.2.2.2.2.2]
def f24.bl (_x : f24.Ty0) : List (Nat × Blk) := []
def f24.inA : VS → Option (f24.Ty0)
  | ⟨[(0, .agg [.ints .u8 32 a0]), (1, .int .u64 a1), (2, .int .u8 a2), (3, .agg [.ints .u8 16 a3]), (4, .agg [.ints .u8 16 a4]), (5, .int .u32 a5)], [], 0⟩ => some (a0, a1, a2, a3, a4, a5)
  | _ => none
def f24.o0 (y : f24.Ty1) : VS := ⟨[(0, .tup [.agg [.int .u8 y.1, .int .u64 y.2.1, .ints .u8 32 y.2.2.1], .int .i64 y.2.2.2])], [], 0⟩
def f24.inR : VS → Option (f24.Ty1)
  | ⟨[(0, .tup [.agg [.int .u8 y_0, .int .u64 y_1, .ints .u8 32 y_2], .int .i64 y_3])], [], 0⟩ => some (y_0, y_1, y_2, y_3)
  | _ => none
noncomputable def f24.E (K : Nat) : Entry := genE 0 f24.inA (f24.F K) (dv1 f24.o0)
theorem f24.ok (K : Nat) : EntryOK Try.prog 24 (f24.E K) := gen_ok mix tys_ok (sp := tabSp [(41, (viewE [(0, .u8)] (f41.E K))), (22, (rowsE 1 .u8 (viewE [(0, .u8)] (f22.E K))))]) (tab_ok ((tab_cons (view_ok (f41.ok K)) (tab_cons (rows_ok (view_ok (f22.ok K))) tab_nil)))) Try.func24 (c := bodyOf Try.f24) (by kernel_rfl) (by kernel_rfl) (loops_none (lp := lpNone) (by kernel_rfl)) (av := f24.av) (bl := f24.bl) (inR := f24.inR) (out := f24.o0) (fuel := 400)
  (by intro s x h; unfold f24.inA at h; split at h <;> simp at h; subst h; rfl) (fun _ => Nat.le_of_ble_eq_true rfl)
  (by intro s y h; unfold f24.inR at h; split at h <;> simp at h <;> subst h <;> rfl) (fun _ _ _ => rfl) (fun _ => by kernel_rfl)
end Go.Proofs

namespace Go.Proofs
open Go.VM
def f49.T (K : Nat) (a0 : Int) : Option (Int) :=
  (f68.F K a0).bind fun y1 =>
  some y1
def f49.F (K : Nat) (x : Int) : Option (Int) := f49.T K x
def f49.av (x : Int) : List VV := [.int .u64 x]
def f49.bl (_x : Int) : List (Nat × Blk) := []
def f49.inA : VS → Option (Int)
  | ⟨[(0, .int .u64 a0)], [], 0⟩ => some a0
  | _ => none
def f49.o0 (y : Int) : VS := ⟨[(0, .int .i64 y)], [], 0⟩
def f49.inR : VS → Option (Int)
  | ⟨[(0, .int .i64 y)], [], 0⟩ => some y
  | _ => none
noncomputable def f49.E (K : Nat) : Entry := genE 0 f49.inA (f49.F K) (dv1 f49.o0)
theorem f49.ok (K : Nat) : EntryOK Try.prog 49 (f49.E K) := gen_ok mix tys_ok (tab_ok ((tab_cons (f68.ok K) tab_nil))) Try.func49 (c := bodyOf Try.f49) (by kernel_rfl) (by kernel_rfl) (loops_none (lp := lpNone) (by kernel_rfl)) (av := f49.av) (bl := f49.bl) (inR := f49.inR) (out := f49.o0) (fuel := 400)
  (by intro s x h; unfold f49.inA at h; split at h <;> simp at h; subst h; rfl) (fun _ => Nat.le_of_ble_eq_true rfl)
  (by intro s y h; unfold f49.inR at h; split at h <;> simp at h <;> subst h <;> rfl) (fun _ _ _ => rfl) (fun _ => by kernel_rfl)
end Go.Proofs

namespace Go.Proofs
open Go.VM
def f26.T (K : Nat) (a0 : Int) : Option (Int) :=
  bif (decide (a0 < 8)) then
    some (0)
  else
    (f49.F K (IntKind.wrap .u64 (IntKind.wrap .i64 (Int.tdiv a0 4)))).bind fun y4 =>
    some (IntKind.wrap .u8 (minE (IntKind.wrap .i64 (y4 - 1)) 12))
def f26.F (K : Nat) (x : Int) : Option (Int) := f26.T K x
def f26.av (x : Int) : List VV := [.int .i64 x]
def f26.bl (_x : Int) : List (Nat × Blk) := []
def f26.inA : VS → Option (Int)
  | ⟨[(0, .int .i64 a0)], [], 0⟩ => some a0
  | _ => none
def f26.o0 (y : Int) : VS := ⟨[(0, .int .u8 y)], [], 0⟩
def f26.inR : VS → Option (Int)
  | ⟨[(0, .int .u8 y)], [], 0⟩ => some y
  | _ => none
noncomputable def f26.E (K : Nat) : Entry := genE 0 f26.inA (f26.F K) (dv1 f26.o0)
theorem f26.ok (K : Nat) : EntryOK Try.prog 26 (f26.E K) := gen_ok mix tys_ok (tab_ok ((tab_cons (f49.ok K) tab_nil))) Try.func26 (c := bodyOf Try.f26) (by kernel_rfl) (by kernel_rfl) (loops_none (lp := lpNone) (by kernel_rfl)) (av := f26.av) (bl := f26.bl) (inR := f26.inR) (out := f26.o0) (fuel := 400)
  (by intro s x h; unfold f26.inA at h; split at h <;> simp at h; subst h; rfl) (fun _ => Nat.le_of_ble_eq_true rfl)
  (by intro s y h; unfold f26.inR at h; split at h <;> simp at h <;> subst h <;> rfl) (fun _ _ _ => rfl) (fun _ => by kernel_rfl)
end Go.Proofs
