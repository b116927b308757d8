/- Plain laws: lemmas that hold with no condition but those that each states. -/
import Derived.Test.YtlncodfolaoilaaQ2
import Derived.Test.YtlncodfolaoilaaQ6
namespace Go.Proofs
open Go.VM
def f59.T (_K : Nat)  : Option (Int) :=
  some (0)
def f59.F (K : Nat) (_x : Unit) : Option (Int) := f59.T K
def f59.av (_x : Unit) : List VV := [.raw (.pointer none), .fn 60 []]
def f59.bl (_x : Unit) : List (Nat × Blk) := []
def f59.inA : VS → Option (Unit)
  | ⟨[(0, .raw (.pointer none)), (1, .fn 60 [])], [], 0⟩ => some ()
  | _ => none
def f59.o0 (y : Int) : VS := ⟨[(0, .int .u64 y)], [], 0⟩
def f59.inR : VS → Option (Int)
  | ⟨[(0, .int .u64 y)], [], 0⟩ => some y
  | _ => none
noncomputable def f59.E (K : Nat) : Entry := genE 0 f59.inA (f59.F K) (dv1 f59.o0)
theorem f59.ok (K : Nat) : EntryOK Try.prog 59 (f59.E K) := gen_ok mix tys_ok (tab_ok ( tab_nil)) Try.func59 (c := bodyOf Try.f59) (by kernel_rfl) (by kernel_rfl) (loops_none (lp := lpNone) (by kernel_rfl)) (av := f59.av) (bl := f59.bl) (inR := f59.inR) (out := f59.o0) (fuel := 400)
  (by intro s x h; unfold f59.inA at h; split at h <;> simp at h; rfl) (fun _ => Nat.le_of_ble_eq_true rfl)
  (by intro s y h; unfold f59.inR at h; split at h <;> simp at h <;> subst h <;> rfl) (fun _ _ _ => rfl) (fun _ => by kernel_rfl)
end Go.Proofs

namespace Go.Proofs
open Go.VM
def f35.T (K : Nat)  : Option (Int) :=
  (f59.F K ()).bind fun y1 =>
  some y1
def f35.F (K : Nat) (_x : Unit) : Option (Int) := f35.T K
def f35.av (_x : Unit) : List VV := [.raw (.pointer none)]
def f35.bl (_x : Unit) : List (Nat × Blk) := []
def f35.inA : VS → Option (Unit)
  | ⟨[(0, .raw (.pointer none))], [], 0⟩ => some ()
  | _ => none
def f35.o0 (y : Int) : VS := ⟨[(0, .int .u64 y)], [], 0⟩
def f35.inR : VS → Option (Int)
  | ⟨[(0, .int .u64 y)], [], 0⟩ => some y
  | _ => none
noncomputable def f35.E (K : Nat) : Entry := genE 0 f35.inA (f35.F K) (dv1 f35.o0)
theorem f35.ok (K : Nat) : EntryOK Try.prog 35 (f35.E K) := gen_ok mix tys_ok (tab_ok ((tab_cons (f59.ok K) tab_nil))) Try.func35 (c := bodyOf Try.f35) (by kernel_rfl) (by kernel_rfl) (loops_none (lp := lpNone) (by kernel_rfl)) (av := f35.av) (bl := f35.bl) (inR := f35.inR) (out := f35.o0) (fuel := 400)
  (by intro s x h; unfold f35.inA at h; split at h <;> simp at h; rfl) (fun _ => Nat.le_of_ble_eq_true rfl)
  (by intro s y h; unfold f35.inR at h; split at h <;> simp at h <;> subst h <;> rfl) (fun _ _ _ => rfl) (fun _ => by kernel_rfl)
end Go.Proofs

namespace Go.Proofs
open Go.VM
abbrev f53.Ty0 := Bool × Int × Int × List Int
abbrev f53.Ty1 := Int × Int × List Int
def f53.T (_K : Nat) (m0_0 : Int) (m0_1 : Int) (m0_2 : List Int) : Option (f53.Ty0) :=
  some ((m0_1 == 1), m0_0, m0_1, m0_2)
def f53.F (K : Nat) (x : f53.Ty1) : Option (f53.Ty0) := f53.T K x.1 x.2.1 x.2.2
def f53.av (_x : f53.Ty1) : List VV := [.ptr 0 0]
def f53.bl (x : f53.Ty1) : List (Nat × Blk) := [(0, ([.int .u64 x.1, .int .i64 x.2.1, .ints .u8 32 x.2.2], 74, .norm))]
def f53.inA : VS → Option (f53.Ty1)
  | ⟨[(0, .ptr 0 0)], [(0, ([.int .u64 m0_0, .int .i64 m0_1, .ints .u8 32 m0_2], 74, .norm))], 1⟩ => some (m0_0, m0_1, m0_2)
  | _ => none
def f53.o0 (y : f53.Ty0) : VS := ⟨[(0, .bool y.1)], [(0, ([.int .u64 y.2.1, .int .i64 y.2.2.1, .ints .u8 32 y.2.2.2], 74, .norm))], 1⟩
def f53.inR : VS → Option (f53.Ty0)
  | ⟨[(0, .bool y)], [(0, ([.int .u64 z0_0, .int .i64 z0_1, .ints .u8 32 z0_2], 74, .norm))], 1⟩ => some (y, z0_0, z0_1, z0_2)
  | _ => none
noncomputable def f53.E (K : Nat) : Entry := genE 1 f53.inA (f53.F K) (dv1 f53.o0)
theorem f53.ok (K : Nat) : EntryOK Try.prog 53 (f53.E K) := gen_ok mix tys_ok (tab_ok ( tab_nil)) Try.func53 (c := bodyOf Try.f53) (by kernel_rfl) (by kernel_rfl) (loops_none (lp := lpNone) (by kernel_rfl)) (av := f53.av) (bl := f53.bl) (inR := f53.inR) (out := f53.o0) (fuel := 400)
  (by intro s x h; unfold f53.inA at h; split at h <;> simp at h; subst h; rfl) (fun _ => Nat.le_of_ble_eq_true rfl)
  (by intro s y h; unfold f53.inR at h; split at h <;> simp at h <;> subst h <;> rfl) (fun _ _ _ => rfl) (fun _ => by kernel_rfl)
end Go.Proofs

namespace Go.Proofs
open Go.VM
abbrev f54.Ty0 := List Int × Int × Int × List Int
abbrev f54.Ty1 := Int × Int × List Int
def f54.T (K : Nat) (m0_0 : Int) (m0_1 : Int) (m0_2 : List Int) : Option (f54.Ty0) :=
  (f41.F K (0, m0_0, 8, 0, [])).bind fun y2 =>
  bif ((Nat.ble (0 + y2.1) y2.2.2.2.2.1 && (Nat.ble y2.1 y2.2.1)) && true) then
    (f22v1.F K (32, 32, (subI m0_2 0 32), 4, y2.1, 4, [100, 114, 97, 119], y2.1, (subI y2.2.2.2.2.2 0 y2.1))).bind fun y3 =>
    some (y3.1, (IntKind.wrap .u64 (m0_0 + 1)), m0_1, m0_2)
  else
    none
def f54.F (K : Nat) (x : f54.Ty1) : Option (f54.Ty0) := f54.T K x.1 x.2.1 x.2.2
def f54.av (_x : f54.Ty1) : List VV := [.ptr 0 0]
def f54.bl (x : f54.Ty1) : List (Nat × Blk) := [(0, ([.int .u64 x.1, .int .i64 x.2.1, .ints .u8 32 x.2.2], 74, .norm))]
def f54.inA : VS → Option (f54.Ty1)
  | ⟨[(0, .ptr 0 0)], [(0, ([.int .u64 m0_0, .int .i64 m0_1, .ints .u8 32 m0_2], 74, .norm))], 1⟩ => some (m0_0, m0_1, m0_2)
  | _ => none
def f54.o0 (y : f54.Ty0) : VS := ⟨[(0, .agg [.ints .u8 32 y.1])], [(0, ([.int .u64 y.2.1, .int .i64 y.2.2.1, .ints .u8 32 y.2.2.2], 74, .norm))], 1⟩
def f54.inR : VS → Option (f54.Ty0)
  | ⟨[(0, .agg [.ints .u8 32 y])], [(0, ([.int .u64 z0_0, .int .i64 z0_1, .ints .u8 32 z0_2], 74, .norm))], 1⟩ => some (y, z0_0, z0_1, z0_2)
  | _ => none
noncomputable def f54.E (K : Nat) : Entry := genE 1 f54.inA (f54.F K) (dv1 f54.o0)
theorem f54.ok (K : Nat) : EntryOK Try.prog 54 (f54.E K) := gen_ok mix tys_ok (sp := tabSp [(41, (viewE [(0, .u8)] (f41.E K))), (22, (rowsE 1 .u8 (viewE [(0, .u8)] (f22v1.E K))))]) (tab_ok ((tab_cons (view_ok (f41.ok K)) (tab_cons (rows_ok (view_ok (f22v1.ok K))) tab_nil)))) Try.func54 (c := bodyOf Try.f54) (by kernel_rfl) (by kernel_rfl) (loops_none (lp := lpNone) (by kernel_rfl)) (av := f54.av) (bl := f54.bl) (inR := f54.inR) (out := f54.o0) (fuel := 400)
  (by intro s x h; unfold f54.inA at h; split at h <;> simp at h; subst h; rfl) (fun _ => Nat.le_of_ble_eq_true rfl)
  (by intro s y h; unfold f54.inR at h; split at h <;> simp at h <;> subst h <;> rfl) (fun _ _ _ => rfl) (fun _ => by kernel_rfl)
end Go.Proofs

namespace Go.Proofs
open Go.VM
abbrev f50v1.Ty0 := ByteArray × Nat × Nat × Nat × List Int × Nat × List Int
abbrev f50v1.Ty1 := List Int × Nat × Nat × Nat × List Int × Nat × List Int
def f50v1.T (K : Nat) (a0 : ByteArray) (m0_0 : Nat) (m0_1 : Nat) (m2_0 : Nat) (m2_1 : List Int) (m4_0 : Nat) (m4_1 : List Int) : Option (f50v1.Ty1) :=
  (f42.F K ()).bind fun y1 =>
  let v2 := ByteArray.size a0
  bif ((Nat.ble (0 + v2) (ByteArray.size a0) && true) && true) then
    (f69.F K (0, v2, 0, [], v2, (subI (strL a0) 0 v2))).bind fun y4 =>
    (f41.F K (0, 2, 4, 0, [])).bind fun y5 =>
    bif ((Nat.ble (0 + y4.1) y4.2.2.2.2.2.1 && true) && ((Nat.ble (0 + y5.1) y5.2.2.2.2.1 && (Nat.ble y5.1 y5.2.1)) && true)) then
      (f40v2.F K (y1.1, y1.2.1, y1.2.2.1, y4.1, y5.1, y1.2.2.2, y4.1, (subI y4.2.2.2.2.2.2 0 y4.1), y5.1, (subI y5.2.2.2.2.2 0 y5.1))).bind fun y6 =>
      bif ((Nat.ble (0 + m0_0) m2_0 && true) && true) then
        (f69.F K (0, m0_0, 0, [], m0_0, (subI m2_1 0 m0_0))).bind fun y7 =>
        bif ((Nat.ble (0 + y7.1) y7.2.2.2.2.2.1 && true) && true) then
          (f40.F K (y6.1, y6.2.1, y6.2.2.1, y7.1, y6.2.2.2.2.2.2.2.2.2, y7.1, (subI y7.2.2.2.2.2.2 0 y7.1))).bind fun y8 =>
          bif ((Nat.ble (0 + m0_1) m4_0 && true) && true) then
            (f69.F K (0, m0_1, 0, [], m0_1, (subI m4_1 0 m0_1))).bind fun y9 =>
            bif ((Nat.ble (0 + y9.1) y9.2.2.2.2.2.1 && true) && true) then
              (f40.F K (y8.1, y8.2.1, y8.2.2.1, y9.1, y8.2.2.2.2.2.2, y9.1, (subI y9.2.2.2.2.2.2 0 y9.1))).bind fun y10 =>
              (f16v2.F K (y10.1, y10.2.1, y10.2.2.1, y10.2.2.2.2.2.2)).bind fun y11 =>
              some (y11.1, m0_0, m0_1, m2_0, m2_1, m4_0, m4_1)
            else
              none
          else
            none
        else
          none
      else
        none
    else
      none
  else
    none
def f50v1.F (K : Nat) (x : f50v1.Ty0) : Option (f50v1.Ty1) := f50v1.T K x.1 x.2.1 x.2.2.1 x.2.2.2.1 x.2.2.2.2.1 x.2.2.2.2.2.1 x.2.2.2.2.2.2
def f50v1.av (x : f50v1.Ty0) : List VV := [.str x.1, .vw true 0 0 2 1]
def f50v1.bl (x : f50v1.Ty0) : List (Nat × Blk) := [(0, ([.vw true 2 0 x.2.1 3, .vw true 4 0 x.2.2.1 5], 0, .ro)), (2, ([.ints .u8 x.2.2.2.1 x.2.2.2.2.1], 0, .ro)), (4, ([.ints .u8 x.2.2.2.2.2.1 x.2.2.2.2.2.2], 0, .ro))]
def f50v1.inA : VS → Option (f50v1.Ty0)
  | ⟨[(0, .str a0), (1, .vw true 0 0 2 1)], [(0, ([.vw true 2 0 m0_0 3, .vw true 4 0 m0_1 5], 0, .ro)), (2, ([.ints .u8 m2_0 m2_1], 0, .ro)), (4, ([.ints .u8 m4_0 m4_1], 0, .ro))], 6⟩ => some (a0, m0_0, m0_1, m2_0, m2_1, m4_0, m4_1)
  | _ => none
def f50v1.o0 (y : f50v1.Ty1) : VS := ⟨[(0, .agg [.ints .u8 32 y.1])], [(0, ([.vw true 2 0 y.2.1 3, .vw true 4 0 y.2.2.1 5], 0, .ro)), (2, ([.ints .u8 y.2.2.2.1 y.2.2.2.2.1], 0, .ro)), (4, ([.ints .u8 y.2.2.2.2.2.1 y.2.2.2.2.2.2], 0, .ro))], 6⟩
def f50v1.inR : VS → Option (f50v1.Ty1)
  | ⟨[(0, .agg [.ints .u8 32 y])], [(0, ([.vw true 2 0 z0_0 3, .vw true 4 0 z0_1 5], 0, .ro)), (2, ([.ints .u8 z2_0 z2_1], 0, .ro)), (4, ([.ints .u8 z4_0 z4_1], 0, .ro))], 6⟩ => some (y, z0_0, z0_1, z2_0, z2_1, z4_0, z4_1)
  | _ => none
noncomputable def f50v1.E (K : Nat) : Entry := genE 6 f50v1.inA (f50v1.F K) (dv1 f50v1.o0)
theorem f50v1.ok (K : Nat) : EntryOK Try.prog 50 (f50v1.E K) := gen_ok mix tys_ok (sp := tabSp [(42, (f42.E K)), (69, (viewE [(0, .u8), (1, .u8)] (f69.E K))), (41, (viewE [(0, .u8)] (f41.E K))), (40, (orF (fitR 1 .u8 (fitE 8 f40v2.inA)) (rowsE 1 .u8 (f40v2.E K)) (rowsE 1 .u8 (f40.E K)))), (16, (f16v2.E K))]) (tab_ok ((tab_cons (f42.ok K) (tab_cons (view_ok (f69.ok K)) (tab_cons (view_ok (f41.ok K)) (tab_cons (orF_ok (rows_ok (f40v2.ok K)) (rows_ok (f40.ok K))) (tab_cons (f16v2.ok K) tab_nil))))))) Try.func50 (c := bodyOf Try.f50) (by kernel_rfl) (by kernel_rfl) (loops_none (lp := lpNone) (by kernel_rfl)) (av := f50v1.av) (bl := f50v1.bl) (inR := f50v1.inR) (out := f50v1.o0) (fuel := 400)
  (by intro s x h; unfold f50v1.inA at h; split at h <;> simp at h; subst h; rfl) (fun _ => Nat.le_of_ble_eq_true rfl)
  (by intro s y h; unfold f50v1.inR at h; split at h <;> simp at h <;> subst h <;> rfl) (fun _ _ _ => rfl) (fun _ => by kernel_rfl)
end Go.Proofs

namespace Go.Proofs
open Go.VM
abbrev f73.Ty0 := List Int × ByteArray × Nat × Nat × List Int × List Int
abbrev f73.Ty1 := Int × ByteArray × Nat × Nat × List Int
def f73.T (K : Nat) (a0 : Int) (m0 : ByteArray) (m2 : Nat) (m3_0 : Nat) (m3_1 : List Int) : Option (f73.Ty0) :=
  bif ((Nat.ble (0 + m2) m3_0 && true) && true) then
    (f50v1.F K (m0, m2, 1, m2, (subI m3_1 0 m2), 1, [a0])).bind fun y1 =>
    (f74.F K (32, 32, (subI y1.1 0 32))).bind fun y2 =>
    some (y2.1, m0, m2, m3_0, m3_1, [a0])
  else
    none
def f73.F (K : Nat) (x : f73.Ty1) : Option (f73.Ty0) := f73.T K x.1 x.2.1 x.2.2.1 x.2.2.2.1 x.2.2.2.2
def f73.av (x : f73.Ty1) : List VV := [.int .u8 x.1, .ptr 0 0, .ptr 1 0]
def f73.bl (x : f73.Ty1) : List (Nat × Blk) := [(0, ([.str x.2.1], 9, .norm)), (1, ([.sl 2 0 1 2], 93, .norm)), (2, ([.vw true 3 0 x.2.2.1 4, .raw (.slice none 0 0)], 22, .norm)), (3, ([.ints .u8 x.2.2.2.1 x.2.2.2.2], 0, .ro))]
def f73.inA : VS → Option (f73.Ty1)
  | ⟨[(0, .int .u8 a0), (1, .ptr 0 0), (2, .ptr 1 0)], [(0, ([.str m0], 9, .norm)), (1, ([.sl 2 0 1 2], 93, .norm)), (2, ([.vw true 3 0 m2 4, .raw (.slice none 0 0)], 22, .norm)), (3, ([.ints .u8 m3_0 m3_1], 0, .ro))], 5⟩ => some (a0, m0, m2, m3_0, m3_1)
  | _ => none
def f73.o0 (y : f73.Ty0) : VS := ⟨[(0, .agg [.ints .u64 4 y.1])], [(0, ([.str y.2.1], 9, .norm)), (1, ([.sl 2 0 1 2], 93, .norm)), (2, ([.vw true 3 0 y.2.2.1 4, .sl 5 0 1 1], 22, .norm)), (3, ([.ints .u8 y.2.2.2.1 y.2.2.2.2.1], 0, .ro)), (5, ([.ints .u8 1 y.2.2.2.2.2], 5, .norm))], 6⟩
def f73.inR : VS → Option (f73.Ty0)
  | ⟨[(0, .agg [.ints .u64 4 y])], [(0, ([.str z0], 9, .norm)), (1, ([.sl 2 0 1 2], 93, .norm)), (2, ([.vw true 3 0 z2 4, .sl 5 0 1 1], 22, .norm)), (3, ([.ints .u8 z3_0 z3_1], 0, .ro)), (5, ([.ints .u8 1 z5], 5, .norm))], 6⟩ => some (y, z0, z2, z3_0, z3_1, z5)
  | _ => none
noncomputable def f73.E (K : Nat) : Entry := genE 5 f73.inA (f73.F K) (dv1 f73.o0)
theorem f73.ok (K : Nat) : EntryOK Try.prog 73 (f73.E K) := gen_ok mix tys_ok (sp := tabSp [(50, (rowsE 1 .u8 (f50v1.E K))), (74, (viewE [(0, .u8)] (f74.E K)))]) (tab_ok ((tab_cons (rows_ok (f50v1.ok K)) (tab_cons (view_ok (f74.ok K)) tab_nil)))) Try.func73 (c := bodyOf Try.f73) (by kernel_rfl) (by kernel_rfl) (loops_none (lp := lpNone) (by kernel_rfl)) (av := f73.av) (bl := f73.bl) (inR := f73.inR) (out := f73.o0) (fuel := 400)
  (by intro s x h; unfold f73.inA at h; split at h <;> simp at h; subst h; rfl) (fun _ => Nat.le_of_ble_eq_true rfl)
  (by intro s y h; unfold f73.inR at h; split at h <;> simp at h <;> subst h <;> rfl) (fun _ _ _ => rfl) (fun _ => by kernel_rfl)
end Go.Proofs

namespace Go.Proofs
open Go.VM
abbrev f73v1.Ty0 := List Int × ByteArray × Nat × Nat × List Int × List Int × List Int
abbrev f73v1.Ty1 := Int × ByteArray × Nat × Nat × List Int × List Int
def f73v1.T (K : Nat) (a0 : Int) (m0 : ByteArray) (m2 : Nat) (m3_0 : Nat) (m3_1 : List Int) (m5 : List Int) : Option (f73v1.Ty0) :=
  bif ((Nat.ble (0 + m2) m3_0 && true) && true) then
    (f50v1.F K (m0, m2, 1, m2, (subI m3_1 0 m2), 1, [a0])).bind fun y1 =>
    (f74.F K (32, 32, (subI y1.1 0 32))).bind fun y2 =>
    some (y2.1, m0, m2, m3_0, m3_1, m5, [a0])
  else
    none
def f73v1.F (K : Nat) (x : f73v1.Ty1) : Option (f73v1.Ty0) := f73v1.T K x.1 x.2.1 x.2.2.1 x.2.2.2.1 x.2.2.2.2.1 x.2.2.2.2.2
def f73v1.av (x : f73v1.Ty1) : List VV := [.int .u8 x.1, .ptr 0 0, .ptr 1 0]
def f73v1.bl (x : f73v1.Ty1) : List (Nat × Blk) := [(0, ([.str x.2.1], 9, .norm)), (1, ([.sl 2 0 1 2], 93, .norm)), (2, ([.vw true 3 0 x.2.2.1 4, .sl 5 0 1 1], 22, .norm)), (3, ([.ints .u8 x.2.2.2.1 x.2.2.2.2.1], 0, .ro)), (5, ([.ints .u8 1 x.2.2.2.2.2], 5, .norm))]
def f73v1.inA : VS → Option (f73v1.Ty1)
  | ⟨[(0, .int .u8 a0), (1, .ptr 0 0), (2, .ptr 1 0)], [(0, ([.str m0], 9, .norm)), (1, ([.sl 2 0 1 2], 93, .norm)), (2, ([.vw true 3 0 m2 4, .sl 5 0 1 1], 22, .norm)), (3, ([.ints .u8 m3_0 m3_1], 0, .ro)), (5, ([.ints .u8 1 m5], 5, .norm))], 6⟩ => some (a0, m0, m2, m3_0, m3_1, m5)
  | _ => none
def f73v1.o0 (y : f73v1.Ty0) : VS := ⟨[(0, .agg [.ints .u64 4 y.1])], [(0, ([.str y.2.1], 9, .norm)), (1, ([.sl 2 0 1 2], 93, .norm)), (2, ([.vw true 3 0 y.2.2.1 4, .sl 6 0 1 1], 22, .norm)), (3, ([.ints .u8 y.2.2.2.1 y.2.2.2.2.1], 0, .ro)), (5, ([.ints .u8 1 y.2.2.2.2.2.1], 5, .norm)), (6, ([.ints .u8 1 y.2.2.2.2.2.2], 5, .norm))], 7⟩
def f73v1.inR : VS → Option (f73v1.Ty0)
  | ⟨[(0, .agg [.ints .u64 4 y])], [(0, ([.str z0], 9, .norm)), (1, ([.sl 2 0 1 2], 93, .norm)), (2, ([.vw true 3 0 z2 4, .sl 6 0 1 1], 22, .norm)), (3, ([.ints .u8 z3_0 z3_1], 0, .ro)), (5, ([.ints .u8 1 z5], 5, .norm)), (6, ([.ints .u8 1 z6], 5, .norm))], 7⟩ => some (y, z0, z2, z3_0, z3_1, z5, z6)
  | _ => none
noncomputable def f73v1.E (K : Nat) : Entry := genE 6 f73v1.inA (f73v1.F K) (dv1 f73v1.o0)
theorem f73v1.ok (K : Nat) : EntryOK Try.prog 73 (f73v1.E K) := gen_ok mix tys_ok (sp := tabSp [(50, (rowsE 1 .u8 (f50v1.E K))), (74, (viewE [(0, .u8)] (f74.E K)))]) (tab_ok ((tab_cons (rows_ok (f50v1.ok K)) (tab_cons (view_ok (f74.ok K)) tab_nil)))) Try.func73 (c := bodyOf Try.f73) (by kernel_rfl) (by kernel_rfl) (loops_none (lp := lpNone) (by kernel_rfl)) (av := f73v1.av) (bl := f73v1.bl) (inR := f73v1.inR) (out := f73v1.o0) (fuel := 400)
  (by intro s x h; unfold f73v1.inA at h; split at h <;> simp at h; subst h; rfl) (fun _ => Nat.le_of_ble_eq_true rfl)
  (by intro s y h; unfold f73v1.inR at h; split at h <;> simp at h <;> subst h <;> rfl) (fun _ _ _ => rfl) (fun _ => by kernel_rfl)
end Go.Proofs

namespace Go.Proofs
open Go.VM
abbrev f56.Ty0 := List Int × ByteArray × Nat × Nat × List Int
abbrev f56.Ty1 := List Int × Int × Nat × Nat × List Int
def f56.T (K : Nat) (a0 : List Int) (a1 : ByteArray) (m0 : Nat) (m2_0 : Nat) (m2_1 : List Int) : Option (f56.Ty1) :=
  (f73.F K (1, a1, m0, m2_0, m2_1)).bind fun y1 =>
  (f73v1.F K (0, y1.2.1, y1.2.2.1, m2_0, m2_1, y1.2.2.2.2.2)).bind fun y2 =>
  (f75.F K (y1.1, y2.1, a0)).bind fun y3 =>
  some (y3.1, y3.2, m0, m2_0, m2_1)
def f56.F (K : Nat) (x : f56.Ty0) : Option (f56.Ty1) := f56.T K x.1 x.2.1 x.2.2.1 x.2.2.2.1 x.2.2.2.2
def f56.av (x : f56.Ty0) : List VV := [.agg [.ints .u64 4 x.1], .str x.2.1, .vw true 0 0 1 1]
def f56.bl (x : f56.Ty0) : List (Nat × Blk) := [(0, ([.vw true 2 0 x.2.2.1 3], 0, .ro)), (2, ([.ints .u8 x.2.2.2.1 x.2.2.2.2], 0, .ro))]
def f56.inA : VS → Option (f56.Ty0)
  | ⟨[(0, .agg [.ints .u64 4 a0]), (1, .str a1), (2, .vw true 0 0 1 1)], [(0, ([.vw true 2 0 m0 3], 0, .ro)), (2, ([.ints .u8 m2_0 m2_1], 0, .ro))], 4⟩ => some (a0, a1, m0, m2_0, m2_1)
  | _ => none
def f56.o0 (y : f56.Ty1) : VS := ⟨[(0, .tup [.agg [.ints .u64 4 y.1], .int .i64 y.2.1])], [(0, ([.vw true 2 0 y.2.2.1 3], 0, .ro)), (2, ([.ints .u8 y.2.2.2.1 y.2.2.2.2], 0, .ro))], 4⟩
def f56.inR : VS → Option (f56.Ty1)
  | ⟨[(0, .tup [.agg [.ints .u64 4 y_0], .int .i64 y_1])], [(0, ([.vw true 2 0 z0 3], 0, .ro)), (2, ([.ints .u8 z2_0 z2_1], 0, .ro))], 4⟩ => some (y_0, y_1, z0, z2_0, z2_1)
  | _ => none
noncomputable def f56.E (K : Nat) : Entry := genE 4 f56.inA (f56.F K) (dv1 f56.o0)
theorem f56.ok (K : Nat) : EntryOK Try.prog 56 (f56.E K) := gen_ok mix tys_ok (sp := tabSp [(73, (orF (fitE 5 f73.inA) (f73.E K) (f73v1.E K))), (75, (f75.E K))]) (tab_ok ((tab_cons (orF_ok (f73.ok K) (f73v1.ok K)) (tab_cons (f75.ok K) tab_nil)))) Try.func56 (c := bodyOf Try.f56) (by kernel_rfl) (by kernel_rfl) (loops_none (lp := lpNone) (by kernel_rfl)) (av := f56.av) (bl := f56.bl) (inR := f56.inR) (out := f56.o0) (fuel := 400)
  (by intro s x h; unfold f56.inA at h; split at h <;> simp at h; subst h; rfl) (fun _ => Nat.le_of_ble_eq_true rfl)
  (by intro s y h; unfold f56.inR at h; split at h <;> simp at h <;> subst h <;> rfl) (fun _ _ _ => rfl) (fun _ => by kernel_rfl)
end Go.Proofs

namespace Go.Proofs
open Go.VM
abbrev f33v1.Ty0 := List Int × List Int × List Int × Int × Int × List Int
abbrev f33v1.Ty1 := List Int × Int × Int × Int × List Int
def f33v1.k0 : ByteArray := ByteArray.mk #[101, 120, 112, 111, 110, 101, 110, 116]
def f33v1.T (K : Nat) (_a1_0 : List Int) (a1_1 : List Int) (_a1_2 : List Int) (m0_0 : Int) (m0_1 : Int) (m0_2 : List Int) : Option (f33v1.Ty1) :=
  (f53.F K (m0_0, m0_1, m0_2)).bind fun y1 =>
  bif !y1.1 then
    some ([0, 0, 0, 0], 2, y1.2.1, y1.2.2.1, y1.2.2.2)
  else
    (f39.F K 3).bind fun y2 =>
    (f38.F K (a1_1, y2)).bind fun y3 =>
    bif (decide (y3 < 0)) then
      some ([0, 0, 0, 0], 1, y1.2.1, y1.2.2.1, y1.2.2.2)
    else
      (f54.F K (y1.2.1, y1.2.2.1, y1.2.2.2)).bind fun y5 =>
      (f39.F K 1).bind fun y6 =>
      (f55.F K (a1_1, y6)).bind fun y7 =>
      (f56.F K (y7.1, f33v1.k0, 32, 32, (subI y5.1 0 32))).bind fun y8 =>
      (f39.F K 1).bind fun y9 =>
      (f57.F K (y8.1, y9)).bind fun y10 =>
      some (y10.1, 0, y5.2.1, y5.2.2.1, y5.2.2.2)
def f33v1.F (K : Nat) (x : f33v1.Ty0) : Option (f33v1.Ty1) := f33v1.T K x.1 x.2.1 x.2.2.1 x.2.2.2.1 x.2.2.2.2.1 x.2.2.2.2.2
def f33v1.av (x : f33v1.Ty0) : List VV := [.ptr 0 0, .agg [.ints .u64 4 x.1, .ints .u64 4 x.2.1, .ints .u64 4 x.2.2.1]]
def f33v1.bl (x : f33v1.Ty0) : List (Nat × Blk) := [(0, ([.int .u64 x.2.2.2.1, .int .i64 x.2.2.2.2.1, .ints .u8 32 x.2.2.2.2.2], 74, .norm))]
def f33v1.inA : VS → Option (f33v1.Ty0)
  | ⟨[(0, .ptr 0 0), (1, .agg [.ints .u64 4 a1_0, .ints .u64 4 a1_1, .ints .u64 4 a1_2])], [(0, ([.int .u64 m0_0, .int .i64 m0_1, .ints .u8 32 m0_2], 74, .norm))], 1⟩ => some (a1_0, a1_1, a1_2, m0_0, m0_1, m0_2)
  | _ => none
def f33v1.o0 (y : f33v1.Ty1) : VS := ⟨[(0, .tup [.agg [.ints .u64 4 y.1], .int .i64 y.2.1])], [(0, ([.int .u64 y.2.2.1, .int .i64 y.2.2.2.1, .ints .u8 32 y.2.2.2.2], 74, .norm))], 1⟩
def f33v1.inR : VS → Option (f33v1.Ty1)
  | ⟨[(0, .tup [.agg [.ints .u64 4 y_0], .int .i64 y_1])], [(0, ([.int .u64 z0_0, .int .i64 z0_1, .ints .u8 32 z0_2], 74, .norm))], 1⟩ => some (y_0, y_1, z0_0, z0_1, z0_2)
  | _ => none
noncomputable def f33v1.E (K : Nat) : Entry := genE 1 f33v1.inA (f33v1.F K) (dv1 f33v1.o0)
theorem f33v1.ok (K : Nat) : EntryOK Try.prog 33 (f33v1.E K) := gen_ok mix tys_ok (sp := tabSp [(53, (f53.E K)), (39, (f39.E K)), (38, (f38.E K)), (54, (f54.E K)), (55, (f55.E K)), (56, (rowsE 2 .u8 (f56.E K))), (57, (f57.E K))]) (tab_ok ((tab_cons (f53.ok K) (tab_cons (f39.ok K) (tab_cons (f38.ok K) (tab_cons (f54.ok K) (tab_cons (f55.ok K) (tab_cons (rows_ok (f56.ok K)) (tab_cons (f57.ok K) tab_nil))))))))) Try.func33 (c := bodyOf Try.f33) (by kernel_rfl) (by kernel_rfl) (loops_none (lp := lpNone) (by kernel_rfl)) (av := f33v1.av) (bl := f33v1.bl) (inR := f33v1.inR) (out := f33v1.o0) (fuel := 400)
  (by intro s x h; unfold f33v1.inA at h; split at h <;> simp at h; subst h; rfl) (fun _ => Nat.le_of_ble_eq_true rfl)
  (by intro s y h; unfold f33v1.inR at h; split at h <;> simp at h <;> subst h <;> rfl) (fun _ _ _ => rfl) (fun _ => by kernel_rfl)
end Go.Proofs

namespace Go.Proofs
open Go.VM
abbrev f58v1.Ty0 := List Int × Int × Int × List Int
abbrev f58v1.Ty1 := Int × Int × List Int
def f58v1.T (K : Nat) (m0_0 : Int) (m0_1 : Int) (m0_2 : List Int) : Option (f58v1.Ty0) :=
  (f53.F K (m0_0, m0_1, m0_2)).bind fun y1 =>
  bif !y1.1 then
    some ([0, 0, 0, 0, 0, 0, 0, 0, 0, 0, 0, 0, 0, 0, 0, 0, 0, 0, 0, 0, 0, 0, 0, 0, 0, 0, 0, 0, 0, 0, 0, 0], y1.2.1, y1.2.2.1, y1.2.2.2)
  else
    (f54.F K (y1.2.1, y1.2.2.1, y1.2.2.2)).bind fun y2 =>
    some (y2.1, y2.2.1, y2.2.2.1, y2.2.2.2)
def f58v1.F (K : Nat) (x : f58v1.Ty1) : Option (f58v1.Ty0) := f58v1.T K x.1 x.2.1 x.2.2
def f58v1.av (_x : f58v1.Ty1) : List VV := [.ptr 0 0, .fn 54 []]
def f58v1.bl (x : f58v1.Ty1) : List (Nat × Blk) := [(0, ([.int .u64 x.1, .int .i64 x.2.1, .ints .u8 32 x.2.2], 74, .norm))]
def f58v1.inA : VS → Option (f58v1.Ty1)
  | ⟨[(0, .ptr 0 0), (1, .fn 54 [])], [(0, ([.int .u64 m0_0, .int .i64 m0_1, .ints .u8 32 m0_2], 74, .norm))], 1⟩ => some (m0_0, m0_1, m0_2)
  | _ => none
def f58v1.o0 (y : f58v1.Ty0) : VS := ⟨[(0, .agg [.ints .u8 32 y.1])], [(0, ([.int .u64 y.2.1, .int .i64 y.2.2.1, .ints .u8 32 y.2.2.2], 74, .norm))], 1⟩
def f58v1.inR : VS → Option (f58v1.Ty0)
  | ⟨[(0, .agg [.ints .u8 32 y])], [(0, ([.int .u64 z0_0, .int .i64 z0_1, .ints .u8 32 z0_2], 74, .norm))], 1⟩ => some (y, z0_0, z0_1, z0_2)
  | _ => none
noncomputable def f58v1.E (K : Nat) : Entry := genE 1 f58v1.inA (f58v1.F K) (dv1 f58v1.o0)
theorem f58v1.ok (K : Nat) : EntryOK Try.prog 58 (f58v1.E K) := gen_ok mix tys_ok (tab_ok ((tab_cons (f53.ok K) (tab_cons (f54.ok K) tab_nil)))) Try.func58 (c := bodyOf Try.f58) (by kernel_rfl) (by kernel_rfl) (loops_none (lp := lpNone) (by kernel_rfl)) (av := f58v1.av) (bl := f58v1.bl) (inR := f58v1.inR) (out := f58v1.o0) (fuel := 400)
  (by intro s x h; unfold f58v1.inA at h; split at h <;> simp at h; subst h; rfl) (fun _ => Nat.le_of_ble_eq_true rfl)
  (by intro s y h; unfold f58v1.inR at h; split at h <;> simp at h <;> subst h <;> rfl) (fun _ _ _ => rfl) (fun _ => by kernel_rfl)
end Go.Proofs

namespace Go.Proofs
open Go.VM
abbrev f34v1.Ty0 := List Int × Int × Int × List Int
abbrev f34v1.Ty1 := Int × Int × List Int
def f34v1.T (K : Nat) (m0_0 : Int) (m0_1 : Int) (m0_2 : List Int) : Option (f34v1.Ty0) :=
  (f58v1.F K (m0_0, m0_1, m0_2)).bind fun y1 =>
  some (y1.1, y1.2.1, y1.2.2.1, y1.2.2.2)
def f34v1.F (K : Nat) (x : f34v1.Ty1) : Option (f34v1.Ty0) := f34v1.T K x.1 x.2.1 x.2.2
def f34v1.av (_x : f34v1.Ty1) : List VV := [.ptr 0 0]
def f34v1.bl (x : f34v1.Ty1) : List (Nat × Blk) := [(0, ([.int .u64 x.1, .int .i64 x.2.1, .ints .u8 32 x.2.2], 74, .norm))]
def f34v1.inA : VS → Option (f34v1.Ty1)
  | ⟨[(0, .ptr 0 0)], [(0, ([.int .u64 m0_0, .int .i64 m0_1, .ints .u8 32 m0_2], 74, .norm))], 1⟩ => some (m0_0, m0_1, m0_2)
  | _ => none
def f34v1.o0 (y : f34v1.Ty0) : VS := ⟨[(0, .agg [.ints .u8 32 y.1])], [(0, ([.int .u64 y.2.1, .int .i64 y.2.2.1, .ints .u8 32 y.2.2.2], 74, .norm))], 1⟩
def f34v1.inR : VS → Option (f34v1.Ty0)
  | ⟨[(0, .agg [.ints .u8 32 y])], [(0, ([.int .u64 z0_0, .int .i64 z0_1, .ints .u8 32 z0_2], 74, .norm))], 1⟩ => some (y, z0_0, z0_1, z0_2)
  | _ => none
noncomputable def f34v1.E (K : Nat) : Entry := genE 1 f34v1.inA (f34v1.F K) (dv1 f34v1.o0)
theorem f34v1.ok (K : Nat) : EntryOK Try.prog 34 (f34v1.E K) := gen_ok mix tys_ok (tab_ok ((tab_cons (f58v1.ok K) tab_nil))) Try.func34 (c := bodyOf Try.f34) (by kernel_rfl) (by kernel_rfl) (loops_none (lp := lpNone) (by kernel_rfl)) (av := f34v1.av) (bl := f34v1.bl) (inR := f34v1.inR) (out := f34v1.o0) (fuel := 400)
  (by intro s x h; unfold f34v1.inA at h; split at h <;> simp at h; subst h; rfl) (fun _ => Nat.le_of_ble_eq_true rfl)
  (by intro s y h; unfold f34v1.inR at h; split at h <;> simp at h <;> subst h <;> rfl) (fun _ _ _ => rfl) (fun _ => by kernel_rfl)
end Go.Proofs

namespace Go.Proofs
open Go.VM
abbrev f60.Ty0 := Int × Int × Int × List Int
abbrev f60.Ty1 := Int × Int × List Int
def f60.T (_K : Nat) (m0_0 : Int) (m0_1 : Int) (m0_2 : List Int) : Option (f60.Ty0) :=
  some (m0_0, m0_0, m0_1, m0_2)
def f60.F (K : Nat) (x : f60.Ty1) : Option (f60.Ty0) := f60.T K x.1 x.2.1 x.2.2
def f60.av (_x : f60.Ty1) : List VV := [.ptr 0 0]
def f60.bl (x : f60.Ty1) : List (Nat × Blk) := [(0, ([.int .u64 x.1, .int .i64 x.2.1, .ints .u8 32 x.2.2], 74, .norm))]
def f60.inA : VS → Option (f60.Ty1)
  | ⟨[(0, .ptr 0 0)], [(0, ([.int .u64 m0_0, .int .i64 m0_1, .ints .u8 32 m0_2], 74, .norm))], 1⟩ => some (m0_0, m0_1, m0_2)
  | _ => none
def f60.o0 (y : f60.Ty0) : VS := ⟨[(0, .int .u64 y.1)], [(0, ([.int .u64 y.2.1, .int .i64 y.2.2.1, .ints .u8 32 y.2.2.2], 74, .norm))], 1⟩
def f60.inR : VS → Option (f60.Ty0)
  | ⟨[(0, .int .u64 y)], [(0, ([.int .u64 z0_0, .int .i64 z0_1, .ints .u8 32 z0_2], 74, .norm))], 1⟩ => some (y, z0_0, z0_1, z0_2)
  | _ => none
noncomputable def f60.E (K : Nat) : Entry := genE 1 f60.inA (f60.F K) (dv1 f60.o0)
theorem f60.ok (K : Nat) : EntryOK Try.prog 60 (f60.E K) := gen_ok mix tys_ok (tab_ok ( tab_nil)) Try.func60 (c := bodyOf Try.f60) (by kernel_rfl) (by kernel_rfl) (loops_none (lp := lpNone) (by kernel_rfl)) (av := f60.av) (bl := f60.bl) (inR := f60.inR) (out := f60.o0) (fuel := 400)
  (by intro s x h; unfold f60.inA at h; split at h <;> simp at h; subst h; rfl) (fun _ => Nat.le_of_ble_eq_true rfl)
  (by intro s y h; unfold f60.inR at h; split at h <;> simp at h <;> subst h <;> rfl) (fun _ _ _ => rfl) (fun _ => by kernel_rfl)
end Go.Proofs

namespace Go.Proofs
open Go.VM
abbrev f59v1.Ty0 := Int × Int × Int × List Int
abbrev f59v1.Ty1 := Int × Int × List Int
def f59v1.T (K : Nat) (m0_0 : Int) (m0_1 : Int) (m0_2 : List Int) : Option (f59v1.Ty0) :=
  (f53.F K (m0_0, m0_1, m0_2)).bind fun y1 =>
  bif !y1.1 then
    some (0, y1.2.1, y1.2.2.1, y1.2.2.2)
  else
    (f60.F K (y1.2.1, y1.2.2.1, y1.2.2.2)).bind fun y2 =>
    some (y2.1, y2.2.1, y2.2.2.1, y2.2.2.2)
def f59v1.F (K : Nat) (x : f59v1.Ty1) : Option (f59v1.Ty0) := f59v1.T K x.1 x.2.1 x.2.2
def f59v1.av (_x : f59v1.Ty1) : List VV := [.ptr 0 0, .fn 60 []]
def f59v1.bl (x : f59v1.Ty1) : List (Nat × Blk) := [(0, ([.int .u64 x.1, .int .i64 x.2.1, .ints .u8 32 x.2.2], 74, .norm))]
def f59v1.inA : VS → Option (f59v1.Ty1)
  | ⟨[(0, .ptr 0 0), (1, .fn 60 [])], [(0, ([.int .u64 m0_0, .int .i64 m0_1, .ints .u8 32 m0_2], 74, .norm))], 1⟩ => some (m0_0, m0_1, m0_2)
  | _ => none
def f59v1.o0 (y : f59v1.Ty0) : VS := ⟨[(0, .int .u64 y.1)], [(0, ([.int .u64 y.2.1, .int .i64 y.2.2.1, .ints .u8 32 y.2.2.2], 74, .norm))], 1⟩
def f59v1.inR : VS → Option (f59v1.Ty0)
  | ⟨[(0, .int .u64 y)], [(0, ([.int .u64 z0_0, .int .i64 z0_1, .ints .u8 32 z0_2], 74, .norm))], 1⟩ => some (y, z0_0, z0_1, z0_2)
  | _ => none
noncomputable def f59v1.E (K : Nat) : Entry := genE 1 f59v1.inA (f59v1.F K) (dv1 f59v1.o0)
theorem f59v1.ok (K : Nat) : EntryOK Try.prog 59 (f59v1.E K) := gen_ok mix tys_ok (tab_ok ((tab_cons (f53.ok K) (tab_cons (f60.ok K) tab_nil)))) Try.func59 (c := bodyOf Try.f59) (by kernel_rfl) (by kernel_rfl) (loops_none (lp := lpNone) (by kernel_rfl)) (av := f59v1.av) (bl := f59v1.bl) (inR := f59v1.inR) (out := f59v1.o0) (fuel := 400)
  (by intro s x h; unfold f59v1.inA at h; split at h <;> simp at h; subst h; rfl) (fun _ => Nat.le_of_ble_eq_true rfl)
  (by intro s y h; unfold f59v1.inR at h; split at h <;> simp at h <;> subst h <;> rfl) (fun _ _ _ => rfl) (fun _ => by kernel_rfl)
end Go.Proofs

namespace Go.Proofs
open Go.VM
abbrev f35v1.Ty0 := Int × Int × Int × List Int
abbrev f35v1.Ty1 := Int × Int × List Int
def f35v1.T (K : Nat) (m0_0 : Int) (m0_1 : Int) (m0_2 : List Int) : Option (f35v1.Ty0) :=
  (f59v1.F K (m0_0, m0_1, m0_2)).bind fun y1 =>
  some (y1.1, y1.2.1, y1.2.2.1, y1.2.2.2)
def f35v1.F (K : Nat) (x : f35v1.Ty1) : Option (f35v1.Ty0) := f35v1.T K x.1 x.2.1 x.2.2
def f35v1.av (_x : f35v1.Ty1) : List VV := [.ptr 0 0]
def f35v1.bl (x : f35v1.Ty1) : List (Nat × Blk) := [(0, ([.int .u64 x.1, .int .i64 x.2.1, .ints .u8 32 x.2.2], 74, .norm))]
def f35v1.inA : VS → Option (f35v1.Ty1)
  | ⟨[(0, .ptr 0 0)], [(0, ([.int .u64 m0_0, .int .i64 m0_1, .ints .u8 32 m0_2], 74, .norm))], 1⟩ => some (m0_0, m0_1, m0_2)
  | _ => none
def f35v1.o0 (y : f35v1.Ty0) : VS := ⟨[(0, .int .u64 y.1)], [(0, ([.int .u64 y.2.1, .int .i64 y.2.2.1, .ints .u8 32 y.2.2.2], 74, .norm))], 1⟩
def f35v1.inR : VS → Option (f35v1.Ty0)
  | ⟨[(0, .int .u64 y)], [(0, ([.int .u64 z0_0, .int .i64 z0_1, .ints .u8 32 z0_2], 74, .norm))], 1⟩ => some (y, z0_0, z0_1, z0_2)
  | _ => none
noncomputable def f35v1.E (K : Nat) : Entry := genE 1 f35v1.inA (f35v1.F K) (dv1 f35v1.o0)
theorem f35v1.ok (K : Nat) : EntryOK Try.prog 35 (f35v1.E K) := gen_ok mix tys_ok (tab_ok ((tab_cons (f59v1.ok K) tab_nil))) Try.func35 (c := bodyOf Try.f35) (by kernel_rfl) (by kernel_rfl) (loops_none (lp := lpNone) (by kernel_rfl)) (av := f35v1.av) (bl := f35v1.bl) (inR := f35v1.inR) (out := f35v1.o0) (fuel := 400)
  (by intro s x h; unfold f35v1.inA at h; split at h <;> simp at h; subst h; rfl) (fun _ => Nat.le_of_ble_eq_true rfl)
  (by intro s y h; unfold f35v1.inR at h; split at h <;> simp at h <;> subst h <;> rfl) (fun _ _ _ => rfl) (fun _ => by kernel_rfl)
end Go.Proofs

namespace Go.Proofs
open Go.VM
abbrev f37.Ty0 := Int × Int × List Int
def f37.T (_K : Nat) (a0 : List Int) : Option (f37.Ty0) :=
  some (0, 1, a0)
def f37.F (K : Nat) (x : List Int) : Option (f37.Ty0) := f37.T K x
def f37.av (x : List Int) : List VV := [.agg [.ints .u8 32 x]]
def f37.bl (_x : List Int) : List (Nat × Blk) := []
def f37.inA : VS → Option (List Int)
  | ⟨[(0, .agg [.ints .u8 32 a0])], [], 0⟩ => some a0
  | _ => none
def f37.o0 (y : f37.Ty0) : VS := ⟨[(0, .ptr 0 0)], [(0, ([.int .u64 y.1, .int .i64 y.2.1, .ints .u8 32 y.2.2], 74, .norm))], 1⟩
def f37.inR : VS → Option (f37.Ty0)
  | ⟨[(0, .ptr 0 0)], [(0, ([.int .u64 z0_0, .int .i64 z0_1, .ints .u8 32 z0_2], 74, .norm))], 1⟩ => some (z0_0, z0_1, z0_2)
  | _ => none
noncomputable def f37.E (K : Nat) : Entry := genE 0 f37.inA (f37.F K) (dv1 f37.o0)
theorem f37.ok (K : Nat) : EntryOK Try.prog 37 (f37.E K) := gen_ok mix tys_ok (tab_ok ( tab_nil)) Try.func37 (c := bodyOf Try.f37) (by kernel_rfl) (by kernel_rfl) (loops_none (lp := lpNone) (by kernel_rfl)) (av := f37.av) (bl := f37.bl) (inR := f37.inR) (out := f37.o0) (fuel := 400)
  (by intro s x h; unfold f37.inA at h; split at h <;> simp at h; subst h; rfl) (fun _ => Nat.le_of_ble_eq_true rfl)
  (by intro s y h; unfold f37.inR at h; split at h <;> simp at h <;> subst h <;> rfl) (fun _ _ _ => rfl) (fun _ => by kernel_rfl)
end Go.Proofs

namespace Go.Proofs
open Go.VM
def f36.T (K : Nat)  : Option (Bool) :=
  (f37.F K [0, 0, 0, 0, 0, 0, 0, 0, 0, 0, 0, 0, 0, 0, 0, 0, 0, 0, 0, 0, 0, 0, 0, 0, 0, 0, 0, 0, 0, 0, 0, 0]).bind fun y1 =>
  (f35v1.F K (y1.1, y1.2.1, y1.2.2)).bind fun y2 =>
  (f34v1.F K (y2.2.1, y2.2.2.1, y2.2.2.2)).bind fun y3 =>
  (f35v1.F K (y3.2.1, y3.2.2.1, y3.2.2.2)).bind fun y4 =>
  (f33v1.F K ([0, 0, 0, 0], [2, 0, 0, 0], [0, 0, 0, 0], y4.2.1, y4.2.2.1, y4.2.2.2)).bind fun y5 =>
  (f35v1.F K (y5.2.2.1, y5.2.2.2.1, y5.2.2.2.2)).bind fun y6 =>
  (f33v1.F K ([0, 0, 0, 0], [3, 0, 0, 0], [0, 0, 0, 0], y6.2.1, y6.2.2.1, y6.2.2.2)).bind fun y7 =>
  (f33.F K ([0, 0, 0, 0], [0, 0, 0, 0], [0, 0, 0, 0])).bind fun y8 =>
  bif (y2.1 == 0) then
    bif (y4.1 == 1) then
      bif (y5.2.1 == 1) then
        bif (y6.1 == 1) then
          bif (y7.2.1 == 0) then
            (f39.F K 1).bind fun y11 =>
            bif (eqL 4 y7.1 y11 && true) then
              bif (!(eqL 32 y3.1 [0, 0, 0, 0, 0, 0, 0, 0, 0, 0, 0, 0, 0, 0, 0, 0, 0, 0, 0, 0, 0, 0, 0, 0, 0, 0, 0, 0, 0, 0, 0, 0] && true)) then
                bif (y8.2 == 2) then
                  (f35.F K ()).bind fun y14 =>
                  some (y14 == 0)
                else
                  some false
              else
                some false
            else
              (f39.F K 2).bind fun y15 =>
              bif (eqL 4 y7.1 y15 && true) then
                bif (!(eqL 32 y3.1 [0, 0, 0, 0, 0, 0, 0, 0, 0, 0, 0, 0, 0, 0, 0, 0, 0, 0, 0, 0, 0, 0, 0, 0, 0, 0, 0, 0, 0, 0, 0, 0] && true)) then
                  bif (y8.2 == 2) then
                    (f35.F K ()).bind fun y18 =>
                    some (y18 == 0)
                  else
                    some false
                else
                  some false
              else
                some false
          else
            some false
        else
          some false
      else
        some false
    else
      some false
  else
    some false
def f36.F (K : Nat) (_x : Unit) : Option (Bool) := f36.T K
def f36.av (_x : Unit) : List VV := []
def f36.bl (_x : Unit) : List (Nat × Blk) := []
def f36.inA : VS → Option (Unit)
  | ⟨[], [], 0⟩ => some ()
  | _ => none
def f36.o0 (y : Bool) : VS := ⟨[(0, .bool y)], [], 0⟩
def f36.inR : VS → Option (Bool)
  | ⟨[(0, .bool y)], [], 0⟩ => some y
  | _ => none
noncomputable def f36.E (K : Nat) : Entry := genE 0 f36.inA (f36.F K) (dv1 f36.o0)
theorem f36.ok (K : Nat) : EntryOK Try.prog 36 (f36.E K) := gen_ok mix tys_ok (sp := tabSp [(37, (f37.E K)), (35, (orF (fitE 1 f35v1.inA) (f35v1.E K) (f35.E K))), (34, (f34v1.E K)), (33, (orF (fitE 1 f33v1.inA) (f33v1.E K) (f33.E K))), (39, (f39.E K))]) (tab_ok ((tab_cons (f37.ok K) (tab_cons (orF_ok (f35v1.ok K) (f35.ok K)) (tab_cons (f34v1.ok K) (tab_cons (orF_ok (f33v1.ok K) (f33.ok K)) (tab_cons (f39.ok K) tab_nil))))))) Try.func36 (c := bodyOf Try.f36) (by kernel_rfl) (by kernel_rfl) (loops_none (lp := lpNone) (by kernel_rfl)) (av := f36.av) (bl := f36.bl) (inR := f36.inR) (out := f36.o0) (fuel := 400)
  (by intro s x h; unfold f36.inA at h; split at h <;> simp at h; rfl) (fun _ => Nat.le_of_ble_eq_true rfl)
  (by intro s y h; unfold f36.inR at h; split at h <;> simp at h <;> subst h <;> rfl) (fun _ _ _ => rfl) (fun _ => by kernel_rfl)
end Go.Proofs

namespace Go.Proofs
open Go.VM
end Go.Proofs

namespace Go.Proofs
open Go.VM
abbrev f13.Ty0 := Nat × Int × Int × Nat × List Int × Int × Int × List Int × Int × Int × List Int × Int × Int × List Int × List Int
abbrev f13.Ty1 := Nat × Int × Nat × List Int × Int × Int × List Int × Int × Int × List Int × Int × Int × List Int × List Int
abbrev f13.Ty2 := Nat × Int × Nat × List Int × Int × Int × List Int × Int × Int × List Int × Int × Int × List Int
abbrev f13.Ty3 := List Int × List Int × Nat × Nat × List Int
abbrev f13.Ty4 := Bool × Nat × List Int
abbrev f13.Ty5 := Nat × List Int
noncomputable def f13.c : Code := bodyOf Try.f13
def f13.s2t (K : Nat) (rec : f13.Ty0 → Option (f13.Ty1)) (t2 : Nat) (t10 : Int) (t12 : Int) (b0_0 : Nat) (b0_1 : List Int) (b2_0 : Int) (b2_1 : Int) (b2_2 : List Int) (b3_0 : Int) (b3_1 : Int) (b3_2 : List Int) (b4_0 : Int) (b4_1 : Int) (b4_2 : List Int) (b5 : List Int) : Option (f13.Ty1) :=
  bif decide (0 ≤ t10 ∧ t10 < ((t2 : Nat) : Int)) then
    let v10 := 0 + (Int.toNat t10)
    bif Nat.blt v10 b0_0 then
      bif (decide (t12 < (Int.tmod (IntKind.wrap .i64 (List.getD b0_1 v10 0)) 4))) then
        (f34v1.F K (b4_0, b4_1, b4_2)).bind fun y15 =>
        rec (t2, t10, (IntKind.wrap .i64 (t12 + 1)), b0_0, b0_1, b2_0, b2_1, b2_2, b3_0, b3_1, b3_2, y15.2.1, y15.2.2.1, y15.2.2.2, b5)
      else
        some (t2, t10, b0_0, b0_1, b2_0, b2_1, b2_2, b3_0, b3_1, b3_2, b4_0, b4_1, b4_2, b5)
    else
      none
  else
    none
def f13.s2 (K : Nat) (rec : f13.Ty0 → Option (f13.Ty1)) (x : f13.Ty0) : Option (f13.Ty1) := f13.s2t K rec x.1 x.2.1 x.2.2.1 x.2.2.2.1 x.2.2.2.2.1 x.2.2.2.2.2.1 x.2.2.2.2.2.2.1 x.2.2.2.2.2.2.2.1 x.2.2.2.2.2.2.2.2.1 x.2.2.2.2.2.2.2.2.2.1 x.2.2.2.2.2.2.2.2.2.2.1 x.2.2.2.2.2.2.2.2.2.2.2.1 x.2.2.2.2.2.2.2.2.2.2.2.2.1 x.2.2.2.2.2.2.2.2.2.2.2.2.2.1 x.2.2.2.2.2.2.2.2.2.2.2.2.2.2
noncomputable def f13.s2.b : Code := (findLoop 2 f13.c).getD .skip
def f13.s2.h : Hint := { lv := [2, 7, 8, 9, 10, 11, 12] }
def f13.s2.ho : Hint := { lv := [2, 7, 8, 9, 10, 11] }
def f13.s2.shp (x : f13.Ty0) : VS := ⟨[(2, .vw true 0 0 x.1 1), (7, .ptr 2 0), (8, .ptr 3 0), (9, .ptr 4 0), (10, .int .i64 x.2.1), (11, .ptr 5 0), (12, .int .i64 x.2.2.1)], [(0, ([.ints .u8 x.2.2.2.1 x.2.2.2.2.1], 0, .ro)), (2, ([.int .u64 x.2.2.2.2.2.1, .int .i64 x.2.2.2.2.2.2.1, .ints .u8 32 x.2.2.2.2.2.2.2.1], 74, .norm)), (3, ([.int .u64 x.2.2.2.2.2.2.2.2.1, .int .i64 x.2.2.2.2.2.2.2.2.2.1, .ints .u8 32 x.2.2.2.2.2.2.2.2.2.2.1], 74, .norm)), (4, ([.int .u64 x.2.2.2.2.2.2.2.2.2.2.2.1, .int .i64 x.2.2.2.2.2.2.2.2.2.2.2.2.1, .ints .u8 32 x.2.2.2.2.2.2.2.2.2.2.2.2.2.1], 74, .norm)), (5, ([.ints .u8 32 x.2.2.2.2.2.2.2.2.2.2.2.2.2.2], 35, .norm))], 6⟩
def f13.s2.inX : VS → Option (f13.Ty0)
  | ⟨[(2, .vw true 0 0 t2 1), (7, .ptr 2 0), (8, .ptr 3 0), (9, .ptr 4 0), (10, .int .i64 t10), (11, .ptr 5 0), (12, .int .i64 t12)], [(0, ([.ints .u8 b0_0 b0_1], 0, .ro)), (2, ([.int .u64 b2_0, .int .i64 b2_1, .ints .u8 32 b2_2], 74, .norm)), (3, ([.int .u64 b3_0, .int .i64 b3_1, .ints .u8 32 b3_2], 74, .norm)), (4, ([.int .u64 b4_0, .int .i64 b4_1, .ints .u8 32 b4_2], 74, .norm)), (5, ([.ints .u8 32 b5], 35, .norm))], 6⟩ => some (t2, t10, t12, b0_0, b0_1, b2_0, b2_1, b2_2, b3_0, b3_1, b3_2, b4_0, b4_1, b4_2, b5)
  | _ => none
def f13.s2.o0 (y : f13.Ty1) : VS := ⟨[(2, .vw true 0 0 y.1 1), (7, .ptr 2 0), (8, .ptr 3 0), (9, .ptr 4 0), (10, .int .i64 y.2.1), (11, .ptr 5 0)], [(0, ([.ints .u8 y.2.2.1 y.2.2.2.1], 0, .ro)), (2, ([.int .u64 y.2.2.2.2.1, .int .i64 y.2.2.2.2.2.1, .ints .u8 32 y.2.2.2.2.2.2.1], 74, .norm)), (3, ([.int .u64 y.2.2.2.2.2.2.2.1, .int .i64 y.2.2.2.2.2.2.2.2.1, .ints .u8 32 y.2.2.2.2.2.2.2.2.2.1], 74, .norm)), (4, ([.int .u64 y.2.2.2.2.2.2.2.2.2.2.1, .int .i64 y.2.2.2.2.2.2.2.2.2.2.2.1, .ints .u8 32 y.2.2.2.2.2.2.2.2.2.2.2.2.1], 74, .norm)), (5, ([.ints .u8 32 y.2.2.2.2.2.2.2.2.2.2.2.2.2], 35, .norm))], 6⟩
def f13.s2.des : ∀ α : Type, (f13.Ty1) → (Ex → VS → Option α) → Option α := (des1 (.exit 2) f13.s2.o0)
def f13.s2.out : f13.Ty1 → Ex × VS := (fun y => (.exit 2, f13.s2.o0 y))
theorem f13.s2.desOK : ∀ α y (k : Ex → VS → Option α), f13.s2.des α y k = k (f13.s2.out y).1 (f13.s2.out y).2 := (fun _ _ _ => rfl)
def f13.s2.inY : Ex → VS → Option (f13.Ty1)
  | .exit 2, ⟨[(2, .vw true 0 0 t2 1), (7, .ptr 2 0), (8, .ptr 3 0), (9, .ptr 4 0), (10, .int .i64 t10), (11, .ptr 5 0)], [(0, ([.ints .u8 b0_0 b0_1], 0, .ro)), (2, ([.int .u64 b2_0, .int .i64 b2_1, .ints .u8 32 b2_2], 74, .norm)), (3, ([.int .u64 b3_0, .int .i64 b3_1, .ints .u8 32 b3_2], 74, .norm)), (4, ([.int .u64 b4_0, .int .i64 b4_1, .ints .u8 32 b4_2], 74, .norm)), (5, ([.ints .u8 32 b5], 35, .norm))], 6⟩ => some (t2, t10, b0_0, b0_1, b2_0, b2_1, b2_2, b3_0, b3_1, b3_2, b4_0, b4_1, b4_2, b5)
  | _, _ => none
def f13.s0t (K : Nat) (rec : f13.Ty2 → Option ((f13.Ty4) ⊕ (f13.Ty5))) (t2 : Nat) (t10 : Int) (b0_0 : Nat) (b0_1 : List Int) (b2_0 : Int) (b2_1 : Int) (b2_2 : List Int) (b3_0 : Int) (b3_1 : Int) (b3_2 : List Int) (b4_0 : Int) (b4_1 : Int) (b4_2 : List Int) : Option ((f13.Ty4) ⊕ (f13.Ty5)) :=
  bif (decide (t10 < ((t2 : Nat) : Int))) then
    (f34v1.F K (b2_0, b2_1, b2_2)).bind fun y9 =>
    (iter (f13.s2 K) K (t2, t10, 0, b0_0, b0_1, y9.2.1, y9.2.2.1, y9.2.2.2, b3_0, b3_1, b3_2, b4_0, b4_1, b4_2, y9.1)).bind fun y17 =>
    (f34v1.F K (y17.2.2.2.2.2.2.2.1, y17.2.2.2.2.2.2.2.2.1, y17.2.2.2.2.2.2.2.2.2.1)).bind fun y18 =>
    bif (!(eqL 32 y18.1 y17.2.2.2.2.2.2.2.2.2.2.2.2.2 && true)) then
      some (.inl (false, y17.2.2.1, y17.2.2.2.1))
    else
      (f35v1.F K (y17.2.2.2.2.1, y17.2.2.2.2.2.1, y17.2.2.2.2.2.2.1)).bind fun y21 =>
      bif (y21.1 != (IntKind.wrap .u64 ((IntKind.wrap .u64 y17.2.1) + 1))) then
        some (.inl (false, y17.2.2.1, y17.2.2.2.1))
      else
        (f35v1.F K (y18.2.1, y18.2.2.1, y18.2.2.2)).bind fun y25 =>
        (f35v1.F K (y21.2.1, y21.2.2.1, y21.2.2.2)).bind fun y26 =>
        bif (y25.1 != y26.1) then
          some (.inl (false, y17.2.2.1, y17.2.2.2.1))
        else
          rec (y17.1, (IntKind.wrap .i64 (y17.2.1 + 1)), y17.2.2.1, y17.2.2.2.1, y26.2.1, y26.2.2.1, y26.2.2.2, y25.2.1, y25.2.2.1, y25.2.2.2, y17.2.2.2.2.2.2.2.2.2.2.1, y17.2.2.2.2.2.2.2.2.2.2.2.1, y17.2.2.2.2.2.2.2.2.2.2.2.2.1)
  else
    some (.inr (b0_0, b0_1))
def f13.s0 (K : Nat) (rec : f13.Ty2 → Option ((f13.Ty4) ⊕ (f13.Ty5))) (x : f13.Ty2) : Option ((f13.Ty4) ⊕ (f13.Ty5)) := f13.s0t K rec x.1 x.2.1 x.2.2.1 x.2.2.2.1 x.2.2.2.2.1 x.2.2.2.2.2.1 x.2.2.2.2.2.2.1 x.2.2.2.2.2.2.2.1 x.2.2.2.2.2.2.2.2.1 x.2.2.2.2.2.2.2.2.2.1 x.2.2.2.2.2.2.2.2.2.2.1 x.2.2.2.2.2.2.2.2.2.2.2.1 x.2.2.2.2.2.2.2.2.2.2.2.2
noncomputable def f13.s0.b : Code := (findLoop 0 f13.c).getD .skip
def f13.s0.h : Hint := { lv := [2, 7, 8, 9, 10] }
def f13.s0.ho : Hint := { lv := [6] }
def f13.s0.shp (x : f13.Ty2) : VS := ⟨[(2, .vw true 0 0 x.1 1), (7, .ptr 2 0), (8, .ptr 3 0), (9, .ptr 4 0), (10, .int .i64 x.2.1)], [(0, ([.ints .u8 x.2.2.1 x.2.2.2.1], 0, .ro)), (2, ([.int .u64 x.2.2.2.2.1, .int .i64 x.2.2.2.2.2.1, .ints .u8 32 x.2.2.2.2.2.2.1], 74, .norm)), (3, ([.int .u64 x.2.2.2.2.2.2.2.1, .int .i64 x.2.2.2.2.2.2.2.2.1, .ints .u8 32 x.2.2.2.2.2.2.2.2.2.1], 74, .norm)), (4, ([.int .u64 x.2.2.2.2.2.2.2.2.2.2.1, .int .i64 x.2.2.2.2.2.2.2.2.2.2.2.1, .ints .u8 32 x.2.2.2.2.2.2.2.2.2.2.2.2], 74, .norm))], 5⟩
def f13.s0.inX : VS → Option (f13.Ty2)
  | ⟨[(2, .vw true 0 0 t2 1), (7, .ptr 2 0), (8, .ptr 3 0), (9, .ptr 4 0), (10, .int .i64 t10)], [(0, ([.ints .u8 b0_0 b0_1], 0, .ro)), (2, ([.int .u64 b2_0, .int .i64 b2_1, .ints .u8 32 b2_2], 74, .norm)), (3, ([.int .u64 b3_0, .int .i64 b3_1, .ints .u8 32 b3_2], 74, .norm)), (4, ([.int .u64 b4_0, .int .i64 b4_1, .ints .u8 32 b4_2], 74, .norm))], 5⟩ => some (t2, t10, b0_0, b0_1, b2_0, b2_1, b2_2, b3_0, b3_1, b3_2, b4_0, b4_1, b4_2)
  | _ => none
def f13.s0.o0 (y : f13.Ty4) : VS := ⟨[(6, .bool y.1)], [(0, ([.ints .u8 y.2.1 y.2.2], 0, .ro))], 2⟩
def f13.s0.o1 (y : f13.Ty5) : VS := ⟨[], [(0, ([.ints .u8 y.1 y.2], 0, .ro))], 2⟩
def f13.s0.des : ∀ α : Type, ((f13.Ty4) ⊕ (f13.Ty5)) → (Ex → VS → Option α) → Option α := (desA (des1 (.ret) f13.s0.o0) (des1 (.exit 0) f13.s0.o1))
def f13.s0.out : (f13.Ty4) ⊕ (f13.Ty5) → Ex × VS := (alt (fun y => (.ret, f13.s0.o0 y)) (fun y => (.exit 0, f13.s0.o1 y)))
theorem f13.s0.desOK : ∀ α y (k : Ex → VS → Option α), f13.s0.des α y k = k (f13.s0.out y).1 (f13.s0.out y).2 := (desA_ok (fun _ _ _ => rfl) (fun _ _ _ => rfl))
def f13.s0.inY : Ex → VS → Option ((f13.Ty4) ⊕ (f13.Ty5))
  | .ret, ⟨[(6, .bool t6)], [(0, ([.ints .u8 b0_0 b0_1], 0, .ro))], 2⟩ => some (.inl (t6, b0_0, b0_1))
  | .exit 0, ⟨[], [(0, ([.ints .u8 b0_0 b0_1], 0, .ro))], 2⟩ => some (.inr (b0_0, b0_1))
  | _, _ => none
def f13.lp (K : Nat) : Nat → Option (Hint × Summ) := tabLp [(2, f13.s2.h, summOf (iter (f13.s2 K) K) f13.s2.inX f13.s2.des), (0, f13.s0.h, summOf (iter (f13.s0 K) K) f13.s0.inX f13.s0.des)]
noncomputable def f13.tab (K : Nat) : List (Nat × Entry) := [(36, (f36.E K)), (37, (f37.E K)), (34, (f34v1.E K)), (35, (f35v1.E K))]
theorem f13.tabOK (K : Nat) : SpecOK Try.prog (tabSp (f13.tab K)) := tab_ok ((tab_cons (f36.ok K) (tab_cons (f37.ok K) (tab_cons (f34v1.ok K) (tab_cons (f35v1.ok K) tab_nil)))))
theorem f13.s2.eq (K : Nat) (rec : f13.Ty0 → Option (f13.Ty1)) (x : f13.Ty0) : f13.s2 K rec x = roundL (getA tys) (tabSp (f13.tab K)) 63 2 (f13.lp K) 400 f13.s2.b f13.s2.h f13.s2.ho f13.s2.shp f13.s2.inX f13.s2.inY rec x := by kernel_rfl
theorem f13.s2.lok (K : Nat) : LoopsOK Try.prog 63 2 (f13.lp K) f13.s2.b := loops_ok (by
  have h : loopsIn (f13.lp K) f13.s2.b = [] := by kernel_rfl
  rw [h]; simp)
theorem f13.s2.ok (K : Nat) : SummOK Try.prog 63 2 (summOf (iter (f13.s2 K) K) f13.s2.inX f13.s2.des) f13.s2.b :=
  loop_ok mix tys_ok (f13.tabOK K) (h := f13.s2.h) (ho := f13.s2.ho) (shp := f13.s2.shp) (inX := f13.s2.inX) (des := f13.s2.des) (out := f13.s2.out) (inY := f13.s2.inY) (fuel := 400)
    (by intro st x h; unfold f13.s2.inX at h; split at h <;> simp at h; subst h; rfl)
    (by intro e st y h; unfold f13.s2.inY at h; split at h <;> simp at h <;> subst h <;> rfl)
    f13.s2.desOK (f13.s2.lok K) (f13.s2 K) (f13.s2.eq K) K
theorem f13.s0.eq (K : Nat) (rec : f13.Ty2 → Option ((f13.Ty4) ⊕ (f13.Ty5))) (x : f13.Ty2) : f13.s0 K rec x = roundL (getA tys) (tabSp (f13.tab K)) 63 2 (f13.lp K) 400 f13.s0.b f13.s0.h f13.s0.ho f13.s0.shp f13.s0.inX f13.s0.inY rec x := by kernel_rfl
theorem f13.s0.lok (K : Nat) : LoopsOK Try.prog 63 2 (f13.lp K) f13.s0.b := loops_ok (by
  have h : loopsIn (f13.lp K) f13.s0.b = [(2, f13.s2.b)] := by kernel_rfl
  rw [h]
  intro p hp
  simp only [List.mem_cons, List.not_mem_nil, or_false] at hp
  rcases hp with rfl
  · exact ⟨_, rfl, (f13.s2.ok K)⟩)
theorem f13.s0.ok (K : Nat) : SummOK Try.prog 63 2 (summOf (iter (f13.s0 K) K) f13.s0.inX f13.s0.des) f13.s0.b :=
  loop_ok mix tys_ok (f13.tabOK K) (h := f13.s0.h) (ho := f13.s0.ho) (shp := f13.s0.shp) (inX := f13.s0.inX) (des := f13.s0.des) (out := f13.s0.out) (inY := f13.s0.inY) (fuel := 400)
    (by intro st x h; unfold f13.s0.inX at h; split at h <;> simp at h; subst h; rfl)
    (by intro e st y h; unfold f13.s0.inY at h; split at h <;> simp at h <;> subst h <;> rfl)
    f13.s0.desOK (f13.s0.lok K) (f13.s0 K) (f13.s0.eq K) K
theorem f13.loops (K : Nat) : LoopsOK Try.prog 63 2 (f13.lp K) f13.c := loops_ok (by
  have h : loopsIn (f13.lp K) f13.c = [(0, f13.s0.b), (2, f13.s2.b)] := by kernel_rfl
  rw [h]
  intro p hp
  simp only [List.mem_cons, List.not_mem_nil, or_false] at hp
  rcases hp with rfl | rfl
  · exact ⟨_, rfl, (f13.s0.ok K)⟩
  · exact ⟨_, rfl, (f13.s2.ok K)⟩)
def f13.T (K : Nat) (a0 : List Int) (a1 : List Int) (a2 : Nat) (m0_0 : Nat) (m0_1 : List Int) : Option (f13.Ty4) :=
  bif (decide (((a2 : Nat) : Int) > 100)) then
    (f36.F K ()).bind fun y3 =>
    some (y3, m0_0, m0_1)
  else
    (f37.F K a0).bind fun y4 =>
    (f37.F K a0).bind fun y5 =>
    (f37.F K a1).bind fun y6 =>
    (iter (f13.s0 K) K (a2, 0, m0_0, m0_1, y4.1, y4.2.1, y4.2.2, y5.1, y5.2.1, y5.2.2, y6.1, y6.2.1, y6.2.2)).bind fun y29 =>
    alt (fun y30 =>
      some (y30.1, y30.2.1, y30.2.2)) (fun y31 =>
      (f36.F K ()).bind fun y32 =>
      some (y32, y31.1, y31.2)) y29
def f13.F (K : Nat) (x : f13.Ty3) : Option (f13.Ty4) := f13.T K x.1 x.2.1 x.2.2.1 x.2.2.2.1 x.2.2.2.2
def f13.av (x : f13.Ty3) : List VV := [.agg [.ints .u8 32 x.1], .agg [.ints .u8 32 x.2.1], .vw true 0 0 x.2.2.1 1]
def f13.bl (x : f13.Ty3) : List (Nat × Blk) := [(0, ([.ints .u8 x.2.2.2.1 x.2.2.2.2], 0, .ro))]
def f13.inA : VS → Option (f13.Ty3)
  | ⟨[(0, .agg [.ints .u8 32 a0]), (1, .agg [.ints .u8 32 a1]), (2, .vw true 0 0 a2 1)], [(0, ([.ints .u8 m0_0 m0_1], 0, .ro))], 2⟩ => some (a0, a1, a2, m0_0, m0_1)
  | _ => none
def f13.o0 (y : f13.Ty4) : VS := ⟨[(0, .bool y.1)], [(0, ([.ints .u8 y.2.1 y.2.2], 0, .ro))], 2⟩
def f13.des : ∀ α : Type, (f13.Ty4) → (VS → Option α) → Option α := (dv1 f13.o0)
def f13.out : f13.Ty4 → VS := f13.o0
def f13.inR : VS → Option (f13.Ty4)
  | ⟨[(0, .bool y)], [(0, ([.ints .u8 z0_0 z0_1], 0, .ro))], 2⟩ => some (y, z0_0, z0_1)
  | _ => none
noncomputable def f13.E (K : Nat) : Entry := genE 2 f13.inA (f13.F K) f13.des
theorem f13.eq (K : Nat) (x : f13.Ty3) : f13.F K x = xrun (getA tys) (tabSp (f13.tab K)) Try.f13.ntmps 2 (f13.lp K) 400 f13.c ⟨initL 0 (f13.av x), f13.bl x, 2⟩ (contF (getA tys) 2 Try.f13.results.toList f13.inR) := by kernel_rfl
theorem f13.ok (K : Nat) : EntryOK Try.prog 13 (f13.E K) :=
  gen_ok mix tys_ok (f13.tabOK K) Try.func13 (by kernel_rfl : Try.f13.body = some f13.c) (by kernel_rfl) (f13.loops K) (av := f13.av) (bl := f13.bl) (out := f13.out) (fuel := 400)
    (by intro s x h; unfold f13.inA at h; split at h <;> simp at h; subst h; rfl) (fun _ => Nat.le_of_ble_eq_true rfl)
    (by intro s y h; unfold f13.inR at h; split at h <;> simp at h <;> subst h <;> rfl) (fun _ _ _ => rfl) (f13.eq K)
end Go.Proofs

namespace Go.Proofs
open Go.VM
set_option maxRecDepth 1000000 in
theorem f36.holds : f36.F 100000 () = some true := by decide +kernel
def Dr.sum (s : List Int) (n : Nat) : List Int := Sh.mac s ([100, 114, 97, 119] ++ be 8 n)
theorem f53.spec (K : Nat) (a b : Int) (s : List Int) : f53.F K (a, b, s) = some (b == 1, a, b, s) := rfl
theorem f54.spec (K n : Nat) (s : List Int) (hs : s.length = 32) (ho : octets s) (hn : n < 18446744073709551616) (hK : 1000 < K) :
    f54.F K ((n : Int), 1, s) = some (Dr.sum s n, (((n + 1) % 18446744073709551616 : Nat) : Int), 1, s) := by
  simp only [f54.F, f54.T]
  have e1 := f41.spec K 0 8 n [] rfl hn (by omega) (by omega)
  rw [List.nil_append, Nat.zero_add] at e1
  rw [show ((8 : Int)) = ((8 : Nat) : Int) from rfl, e1, bind_s]
  simp only []
  rw [Nat.zero_add, ble_true (Nat.le_refl 8), Bool.and_self, Bool.and_self, cond_t, subI_self _ hs, subI_self _ (be_length 8 n),
    f22v1.spec K 32 s 4 [100, 114, 97, 119] 8 (be 8 n) hs ho (by omega) rfl (by intro x hx; simp only [List.mem_cons, List.not_mem_nil, or_false] at hx; omega) (by omega) (be_length _ _) (be_octets _ _) (by omega) (by omega), bind_s]
  simp only []
  rw [show ((n : Int)) + 1 = ((n + 1 : Nat) : Int) by omega, wrap_nat, Dr.sum]
theorem f34v1.spec (K n : Nat) (s : List Int) (hs : s.length = 32) (ho : octets s) (hn : n < 18446744073709551616) (hK : 1000 < K) :
    f34v1.F K ((n : Int), 1, s) = some (Dr.sum s n, (((n + 1) % 18446744073709551616 : Nat) : Int), 1, s) := by
  simp only [f34v1.F, f34v1.T, f58v1.F, f58v1.T]
  rw [f53.spec, bind_s]
  simp only []
  rw [show ((1 : Int) == 1) = true from rfl, Bool.not_true, cond_f, f54.spec K n s hs ho hn hK, bind_s, bind_s]
theorem f35v1.spec (K : Nat) (n : Int) (s : List Int) : f35v1.F K (n, 1, s) = some (n, n, 1, s) := rfl
end Go.Proofs

namespace Go.Proofs
open Go.VM
theorem eqL_refl (n : Nat) (l : List Int) : eqL n l l = true := by simp [eqL]
def up64 (n : Nat) : Nat := (n + 1) % 18446744073709551616
theorem f34v1.next (K n : Nat) (s : List Int) (hs : s.length = 32) (ho : octets s) (hn : n < 18446744073709551616) (hK : 1000 < K) :
    f34v1.F K ((n : Int), 1, s) = some (Dr.sum s n, ((up64 n : Nat) : Int), 1, s) := f34v1.spec K n s hs ho hn hK
def ups (c : Nat) : Nat → Nat
  | 0 => c
  | k + 1 => up64 (ups c k)
theorem up64_lt (n : Nat) : up64 n < 18446744073709551616 := Nat.mod_lt _ (by decide)
theorem ups_lt {c : Nat} (hc : c < 18446744073709551616) : ∀ k, ups c k < 18446744073709551616
  | 0 => hc
  | _ + 1 => up64_lt _
theorem f13.inner (K a : Nat) (l : List Int) (i : Nat) (hl : l.length = a) (lo : octets l) (hi : i < a) (ha : a ≤ 100) (hK : 1000 < K) (u v : Int × Int × List Int) (s : List Int) (hs : s.length = 32) (so : octets s) (c : Nat) (hc : c < 18446744073709551616) (z : List Int) :
    ∃ c' : Nat, c' < 18446744073709551616 ∧ iter (f13.s2 K) K (a, (i : Int), 0, a, l, u.1, u.2.1, u.2.2, v.1, v.2.1, v.2.2, (c : Int), 1, s, z) = some (a, (i : Int), a, l, u.1, u.2.1, u.2.2, v.1, v.2.1, v.2.2, (c' : Int), 1, s, z) := by
  have hx : List.getD l i 0 = l[i] := by simp [List.getD_eq_getElem?_getD, show i < l.length by omega]
  obtain ⟨x, hx2⟩ : ∃ x : Nat, l[i] = (x : Int) := ⟨l[i].toNat, by have := (lo l[i] (List.getElem_mem _)).1; omega⟩
  have hx3 : x < 256 := by have := (lo l[i] (List.getElem_mem _)).2; omega
  have hm : Int.tmod (IntKind.wrap .i64 (List.getD l i 0)) 4 = ((x % 4 : Nat) : Int) := by
    rw [hx, hx2, wrap_i _ (by omega) (by omega)]; exact tmod_nat x 4
  generalize hN : x % 4 = N at hm
  have hN4 : N < 4 := by omega
  have := iter_for (stp := f13.s2 K) (N := N) (fun k => (a, (i : Int), (k : Int), a, l, u.1, u.2.1, u.2.2, v.1, v.2.1, v.2.2, ((ups c k : Nat) : Int), 1, s, z)) (y := some (a, (i : Int), a, l, u.1, u.2.1, u.2.2, v.1, v.2.1, v.2.2, ((ups c N : Nat) : Int), 1, s, z)) ?_ ?_ (show N < K by omega)
  · exact ⟨ups c N, ups_lt hc N, this⟩
  · intro k hk rec
    simp only [f13.s2, f13.s2t]
    rw [decide_eq_true (show (0 : Int) ≤ (i : Int) ∧ (i : Int) < ((a : Nat) : Int) by omega), cond_t, Int.toNat_natCast, Nat.zero_add, show Nat.blt i a = true from by simp [Nat.blt_eq]; omega, cond_t, hm, decide_eq_true (show (k : Int) < ((N : Nat) : Int) by omega), cond_t,
      f34v1.next K _ s hs so (ups_lt hc k) hK, bind_s, wrap_i _ (by omega) (by omega)]
    rfl
  · intro rec
    simp only [f13.s2, f13.s2t]
    rw [decide_eq_true (show (0 : Int) ≤ (i : Int) ∧ (i : Int) < ((a : Nat) : Int) by omega), cond_t, Int.toNat_natCast, Nat.zero_add, show Nat.blt i a = true from by simp [Nat.blt_eq]; omega, cond_t, hm, decide_eq_false (show ¬ ((N : Nat) : Int) < ((N : Nat) : Int) by omega), cond_f]
theorem f13.holds (s : List Int) (hs : s.length = 32 ∧ ∀ x ∈ s, 0 ≤ x ∧ x < 256) (t : List Int) (ht : t.length = 32 ∧ ∀ x ∈ t, 0 ≤ x ∧ x < 256) (l : List Int) (lo : octets l) : f13.F 100000 (s, t, l.length, l.length, l) = some (true, l.length, l) := by
  generalize hl : l.length = n
  simp only [f13.F, f13.T]
  by_cases h : 100 < n
  · rw [decide_eq_true (show ((n : Nat) : Int) > 100 by omega), cond_t, f36.holds, bind_s]
  rw [decide_eq_false (show ¬ ((n : Nat) : Int) > 100 by omega), cond_f, show f37.F 100000 s = some (0, 1, s) from rfl, bind_s, bind_s, show f37.F 100000 t = some (0, 1, t) from rfl, bind_s]
  simp only []
  have main : ∀ m i c : Nat, i + m = n → c < 18446744073709551616 → ∀ k, m < k → iter (f13.s0 100000) k (n, (i : Int), n, l, (i : Int), 1, s, (i : Int), 1, s, (c : Int), 1, t) = some (.inr (n, l)) := by
    intro m
    induction m with
    | zero =>
      intro i c hi hc k hk
      obtain ⟨k, rfl⟩ : ∃ j, k = j + 1 := ⟨k - 1, by omega⟩
      show f13.s0 100000 (iter (f13.s0 100000) k) _ = _
      simp only [f13.s0, f13.s0t]
      rw [decide_eq_false (show ¬ (i : Int) < ((n : Nat) : Int) by omega), cond_f]
    | succ m ih =>
      intro i c hi hc k hk
      obtain ⟨k, rfl⟩ : ∃ j, k = j + 1 := ⟨k - 1, by omega⟩
      show f13.s0 100000 (iter (f13.s0 100000) k) _ = _
      simp only [f13.s0, f13.s0t]
      obtain ⟨c', hc', e⟩ := f13.inner 100000 n l i hl lo (by omega) (by omega) (by omega) (((i + 1 : Nat) : Int), 1, s) ((i : Int), 1, s) t ht.1 ht.2 c hc (Dr.sum s i)
      have hup : up64 i = i + 1 := by rw [up64, Nat.mod_eq_of_lt (by omega)]
      have hnx := f34v1.next 100000 i s hs.1 hs.2 (by omega) (by omega)
      rw [hup] at hnx
      rw [decide_eq_true (show (i : Int) < ((n : Nat) : Int) by omega), cond_t, hnx, bind_s]
      simp only [] at e ⊢
      rw [e, bind_s]
      simp only []
      rw [hnx, bind_s]
      simp only []
      rw [eqL_refl, Bool.and_self, Bool.not_true, cond_f, f35v1.spec, bind_s]
      simp only []
      have hw : IntKind.wrap .u64 (IntKind.wrap .u64 (i : Int) + 1) = ((i + 1 : Nat) : Int) := by
        rw [wrap_nat, Nat.mod_eq_of_lt (by omega), show ((i : Nat) : Int) + 1 = ((i + 1 : Nat) : Int) by omega, wrap_nat, Nat.mod_eq_of_lt (by omega)]
      rw [hw, show (((i + 1 : Nat) : Int) != ((i + 1 : Nat) : Int)) = false from by simp, cond_f, f35v1.spec, bind_s, bind_s]
      simp only []
      rw [show (((i + 1 : Nat) : Int) != ((i + 1 : Nat) : Int)) = false from by simp, cond_f, wrap_i _ (by omega) (by omega)]
      exact ih (i + 1) c' (by omega) hc' k (by omega)
  have := main n 0 0 (by omega) (by omega) 100000 (by omega)
  rw [show iter (f13.s0 100000) 100000 (n, 0, n, l, 0, 1, s, 0, 1, s, 0, 1, t) = _ from this, bind_s, altr]
  simp only []
  rw [f36.holds, bind_s]
end Go.Proofs
