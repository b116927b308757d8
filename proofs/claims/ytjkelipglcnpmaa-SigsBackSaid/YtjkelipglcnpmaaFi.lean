/- Go functions: for each a Lean function with the same answers, and the proof that the call comes to them, with no condition. -/
import Derived.Test.YtjkelipglcnpmaaFl
import Derived.Test.YtjkelipglcnpmaaFh
import Derived.Test.YtjkelipglcnpmaaFd
import Derived.Test.YtjkelipglcnpmaaFg
import Derived.Test.YtjkelipglcnpmaaFm
namespace Go.Proofs
open Go.VM
noncomputable def f138.c : Code := bodyOf Try.f138
def f138.lp (_ : Nat) : Nat → Option (Hint × Summ) := fun _ => none
noncomputable def f138.tab (K : Nat) : List (Nat × Entry) := [(141, (f141.E K)), (143, (viewE [(0, .u8), (1, .u8)] (f143.E K))), (144, (viewE [(0, .u8)] (f144.E K))), (142, (orF (fitR 1 .u8 (fitE 8 f142.inA)) (rowsE 1 .u8 (f142.E K)) (rowsE 1 .u8 (f142v1.E K)))), (145, (f145.E K))]
theorem f138.tabOK (K : Nat) : SpecOK Try.prog (tabSp (f138.tab K)) := tab_ok ((tab_cons (f141.ok K) (tab_cons (view_ok (f143.ok K)) (tab_cons (view_ok (f144.ok K)) (tab_cons (orF_ok (rows_ok (f142.ok K)) (rows_ok (f142v1.ok K))) (tab_cons (f145.ok K) tab_nil))))))
theorem f138.loops (K : Nat) : LoopsOK Try.prog 33 8 (f138.lp K) f138.c := loops_ok (by
  have h : loopsIn (f138.lp K) f138.c = [] := by kernel_rfl
  rw [h]; simp)
def f138.T (K : Nat) (a0 : ByteArray) (m0_0 : Nat) (m0_1 : Nat) (m0_2 : Nat) (m2_0 : Nat) (m2_1 : List Int) (m4_0 : Nat) (m4_1 : List Int) (m6_0 : Nat) (m6_1 : List Int) : Option (List Int × Nat × Nat × Nat × Nat × List Int × Nat × List Int × Nat × List Int) :=
  (f141.F K ()).bind fun y1 =>
  let v2 := ByteArray.size a0
  bif ((Nat.ble (0 + v2) (ByteArray.size a0) && true) && true) then
    (f143.F K (0, v2, 0, [], v2, (subI (strL a0) 0 v2))).bind fun y4 =>
    (f144.F K (0, 3, 4, 0, [])).bind fun y5 =>
    bif ((Nat.ble (0 + y4.1) y4.2.2.2.2.2.1 && true) && ((Nat.ble (0 + y5.1) y5.2.2.2.2.1 && (Nat.ble y5.1 y5.2.1)) && true)) then
      (f142.F K (y1.1, y1.2.1, y1.2.2.1, y4.1, y5.1, y1.2.2.2, y4.1, (subI y4.2.2.2.2.2.2 0 y4.1), y5.1, (subI y5.2.2.2.2.2 0 y5.1))).bind fun y6 =>
      bif ((Nat.ble (0 + m0_0) m2_0 && true) && true) then
        (f143.F K (0, m0_0, 0, [], m0_0, (subI m2_1 0 m0_0))).bind fun y7 =>
        bif ((Nat.ble (0 + y7.1) y7.2.2.2.2.2.1 && true) && true) then
          (f142v1.F K (y6.1, y6.2.1, y6.2.2.1, y7.1, y6.2.2.2.2.2.2.2.2.2, y7.1, (subI y7.2.2.2.2.2.2 0 y7.1))).bind fun y8 =>
          bif ((Nat.ble (0 + m0_1) m4_0 && true) && true) then
            (f143.F K (0, m0_1, 0, [], m0_1, (subI m4_1 0 m0_1))).bind fun y9 =>
            bif ((Nat.ble (0 + y9.1) y9.2.2.2.2.2.1 && true) && true) then
              (f142v1.F K (y8.1, y8.2.1, y8.2.2.1, y9.1, y8.2.2.2.2.2.2, y9.1, (subI y9.2.2.2.2.2.2 0 y9.1))).bind fun y10 =>
              bif ((Nat.ble (0 + m0_2) m6_0 && true) && true) then
                (f143.F K (0, m0_2, 0, [], m0_2, (subI m6_1 0 m0_2))).bind fun y11 =>
                bif ((Nat.ble (0 + y11.1) y11.2.2.2.2.2.1 && true) && true) then
                  (f142v1.F K (y10.1, y10.2.1, y10.2.2.1, y11.1, y10.2.2.2.2.2.2, y11.1, (subI y11.2.2.2.2.2.2 0 y11.1))).bind fun y12 =>
                  (f145.F K (y12.1, y12.2.1, y12.2.2.1, y12.2.2.2.2.2.2)).bind fun y13 =>
                  some (y13.1, m0_0, m0_1, m0_2, m2_0, m2_1, m4_0, m4_1, m6_0, m6_1)
                else
                  none
              else
                none
            else
              none
          else
            none
        else
          none
      else
        none
    else
      none
  else
    none
def f138.F (K : Nat) (x : ByteArray × Nat × Nat × Nat × Nat × List Int × Nat × List Int × Nat × List Int) : Option (List Int × Nat × Nat × Nat × Nat × List Int × Nat × List Int × Nat × List Int) := f138.T K x.1 x.2.1 x.2.2.1 x.2.2.2.1 x.2.2.2.2.1 x.2.2.2.2.2.1 x.2.2.2.2.2.2.1 x.2.2.2.2.2.2.2.1 x.2.2.2.2.2.2.2.2.1 x.2.2.2.2.2.2.2.2.2
def f138.av (x : ByteArray × Nat × Nat × Nat × Nat × List Int × Nat × List Int × Nat × List Int) : List VV := [.str x.1, .vw true 0 0 3 1]
def f138.bl (x : ByteArray × Nat × Nat × Nat × Nat × List Int × Nat × List Int × Nat × List Int) : List (Nat × Blk) := [(0, ([.vw true 2 0 x.2.1 3, .vw true 4 0 x.2.2.1 5, .vw true 6 0 x.2.2.2.1 7], 0, .ro)), (2, ([.ints .u8 x.2.2.2.2.1 x.2.2.2.2.2.1], 0, .ro)), (4, ([.ints .u8 x.2.2.2.2.2.2.1 x.2.2.2.2.2.2.2.1], 0, .ro)), (6, ([.ints .u8 x.2.2.2.2.2.2.2.2.1 x.2.2.2.2.2.2.2.2.2], 0, .ro))]
def f138.inA : VS → Option (ByteArray × Nat × Nat × Nat × Nat × List Int × Nat × List Int × Nat × List Int)
  | ⟨[(0, .str a0), (1, .vw true 0 0 3 1)], [(0, ([.vw true 2 0 m0_0 3, .vw true 4 0 m0_1 5, .vw true 6 0 m0_2 7], 0, .ro)), (2, ([.ints .u8 m2_0 m2_1], 0, .ro)), (4, ([.ints .u8 m4_0 m4_1], 0, .ro)), (6, ([.ints .u8 m6_0 m6_1], 0, .ro))], 8⟩ => some (a0, m0_0, m0_1, m0_2, m2_0, m2_1, m4_0, m4_1, m6_0, m6_1)
  | _ => none
def f138.o0 (y : List Int × Nat × Nat × Nat × Nat × List Int × Nat × List Int × Nat × List Int) : VS := ⟨[(0, .agg [.ints .u8 32 y.1])], [(0, ([.vw true 2 0 y.2.1 3, .vw true 4 0 y.2.2.1 5, .vw true 6 0 y.2.2.2.1 7], 0, .ro)), (2, ([.ints .u8 y.2.2.2.2.1 y.2.2.2.2.2.1], 0, .ro)), (4, ([.ints .u8 y.2.2.2.2.2.2.1 y.2.2.2.2.2.2.2.1], 0, .ro)), (6, ([.ints .u8 y.2.2.2.2.2.2.2.2.1 y.2.2.2.2.2.2.2.2.2], 0, .ro))], 8⟩
def f138.des : ∀ α : Type, (List Int × Nat × Nat × Nat × Nat × List Int × Nat × List Int × Nat × List Int) → (VS → Option α) → Option α := (dv1 f138.o0)
def f138.out : List Int × Nat × Nat × Nat × Nat × List Int × Nat × List Int × Nat × List Int → VS := f138.o0
def f138.inR : VS → Option (List Int × Nat × Nat × Nat × Nat × List Int × Nat × List Int × Nat × List Int)
  | ⟨[(0, .agg [.ints .u8 32 y])], [(0, ([.vw true 2 0 z0_0 3, .vw true 4 0 z0_1 5, .vw true 6 0 z0_2 7], 0, .ro)), (2, ([.ints .u8 z2_0 z2_1], 0, .ro)), (4, ([.ints .u8 z4_0 z4_1], 0, .ro)), (6, ([.ints .u8 z6_0 z6_1], 0, .ro))], 8⟩ => some (y, z0_0, z0_1, z0_2, z2_0, z2_1, z4_0, z4_1, z6_0, z6_1)
  | _ => none
noncomputable def f138.E (K : Nat) : Entry := genE 8 f138.inA (f138.F K) f138.des
theorem f138.eq (K : Nat) (x : ByteArray × Nat × Nat × Nat × Nat × List Int × Nat × List Int × Nat × List Int) : f138.F K x = xrun (getA tys) (tabSp (f138.tab K)) Try.f138.ntmps 8 (f138.lp K) 400 f138.c ⟨initL 0 (f138.av x), f138.bl x, 8⟩ (contF (getA tys) 8 Try.f138.results.toList f138.inR) := by kernel_rfl
theorem f138.ok (K : Nat) : EntryOK Try.prog 138 (f138.E K) :=
  gen_ok mix tys_ok (f138.tabOK K) Try.func138 (by kernel_rfl : Try.f138.body = some f138.c) (by kernel_rfl) (f138.loops K) (av := f138.av) (bl := f138.bl) (out := f138.out) (fuel := 400)
    (by intro s x h; unfold f138.inA at h; split at h <;> simp at h; subst h; rfl) (fun _ => Nat.le_of_ble_eq_true rfl)
    (by intro s y h; unfold f138.inR at h; split at h <;> simp at h <;> subst h <;> rfl) (fun _ _ _ => rfl) (f138.eq K)
end Go.Proofs

namespace Go.Proofs
open Go.VM
noncomputable def f138v1.c : Code := bodyOf Try.f138
def f138v1.lp (_ : Nat) : Nat → Option (Hint × Summ) := fun _ => none
noncomputable def f138v1.tab (K : Nat) : List (Nat × Entry) := [(141, (f141.E K)), (143, (viewE [(0, .u8), (1, .u8)] (f143.E K))), (144, (viewE [(0, .u8)] (f144.E K))), (142, (orF (fitR 1 .u8 (fitE 8 f142.inA)) (rowsE 1 .u8 (f142.E K)) (rowsE 1 .u8 (f142v1.E K)))), (145, (f145.E K))]
theorem f138v1.tabOK (K : Nat) : SpecOK Try.prog (tabSp (f138v1.tab K)) := tab_ok ((tab_cons (f141.ok K) (tab_cons (view_ok (f143.ok K)) (tab_cons (view_ok (f144.ok K)) (tab_cons (orF_ok (rows_ok (f142.ok K)) (rows_ok (f142v1.ok K))) (tab_cons (f145.ok K) tab_nil))))))
theorem f138v1.loops (K : Nat) : LoopsOK Try.prog 33 10 (f138v1.lp K) f138v1.c := loops_ok (by
  have h : loopsIn (f138v1.lp K) f138v1.c = [] := by kernel_rfl
  rw [h]; simp)
def f138v1.T (K : Nat) (a0 : ByteArray) (m0_0 : Nat) (m0_1 : Nat) (m0_2 : Nat) (m0_3 : Nat) (m2_0 : Nat) (m2_1 : List Int) (m4_0 : Nat) (m4_1 : List Int) (m6_0 : Nat) (m6_1 : List Int) (m8_0 : Nat) (m8_1 : List Int) : Option (List Int × Nat × Nat × Nat × Nat × Nat × List Int × Nat × List Int × Nat × List Int × Nat × List Int) :=
  (f141.F K ()).bind fun y1 =>
  let v2 := ByteArray.size a0
  bif ((Nat.ble (0 + v2) (ByteArray.size a0) && true) && true) then
    (f143.F K (0, v2, 0, [], v2, (subI (strL a0) 0 v2))).bind fun y4 =>
    (f144.F K (0, 4, 4, 0, [])).bind fun y5 =>
    bif ((Nat.ble (0 + y4.1) y4.2.2.2.2.2.1 && true) && ((Nat.ble (0 + y5.1) y5.2.2.2.2.1 && (Nat.ble y5.1 y5.2.1)) && true)) then
      (f142.F K (y1.1, y1.2.1, y1.2.2.1, y4.1, y5.1, y1.2.2.2, y4.1, (subI y4.2.2.2.2.2.2 0 y4.1), y5.1, (subI y5.2.2.2.2.2 0 y5.1))).bind fun y6 =>
      bif ((Nat.ble (0 + m0_0) m2_0 && true) && true) then
        (f143.F K (0, m0_0, 0, [], m0_0, (subI m2_1 0 m0_0))).bind fun y7 =>
        bif ((Nat.ble (0 + y7.1) y7.2.2.2.2.2.1 && true) && true) then
          (f142v1.F K (y6.1, y6.2.1, y6.2.2.1, y7.1, y6.2.2.2.2.2.2.2.2.2, y7.1, (subI y7.2.2.2.2.2.2 0 y7.1))).bind fun y8 =>
          bif ((Nat.ble (0 + m0_1) m4_0 && true) && true) then
            (f143.F K (0, m0_1, 0, [], m0_1, (subI m4_1 0 m0_1))).bind fun y9 =>
            bif ((Nat.ble (0 + y9.1) y9.2.2.2.2.2.1 && true) && true) then
              (f142v1.F K (y8.1, y8.2.1, y8.2.2.1, y9.1, y8.2.2.2.2.2.2, y9.1, (subI y9.2.2.2.2.2.2 0 y9.1))).bind fun y10 =>
              bif ((Nat.ble (0 + m0_2) m6_0 && true) && true) then
                (f143.F K (0, m0_2, 0, [], m0_2, (subI m6_1 0 m0_2))).bind fun y11 =>
                bif ((Nat.ble (0 + y11.1) y11.2.2.2.2.2.1 && true) && true) then
                  (f142v1.F K (y10.1, y10.2.1, y10.2.2.1, y11.1, y10.2.2.2.2.2.2, y11.1, (subI y11.2.2.2.2.2.2 0 y11.1))).bind fun y12 =>
                  bif ((Nat.ble (0 + m0_3) m8_0 && true) && true) then
                    (f143.F K (0, m0_3, 0, [], m0_3, (subI m8_1 0 m0_3))).bind fun y13 =>
                    bif ((Nat.ble (0 + y13.1) y13.2.2.2.2.2.1 && true) && true) then
                      (f142v1.F K (y12.1, y12.2.1, y12.2.2.1, y13.1, y12.2.2.2.2.2.2, y13.1, (subI y13.2.2.2.2.2.2 0 y13.1))).bind fun y14 =>
                      (f145.F K (y14.1, y14.2.1, y14.2.2.1, y14.2.2.2.2.2.2)).bind fun y15 =>
                      some (y15.1, m0_0, m0_1, m0_2, m0_3, m2_0, m2_1, m4_0, m4_1, m6_0, m6_1, m8_0, m8_1)
                    else
                      none
                  else
                    none
                else
                  none
              else
                none
            else
              none
          else
            none
        else
          none
      else
        none
    else
      none
  else
    none
def f138v1.F (K : Nat) (x : ByteArray × Nat × Nat × Nat × Nat × Nat × List Int × Nat × List Int × Nat × List Int × Nat × List Int) : Option (List Int × Nat × Nat × Nat × Nat × Nat × List Int × Nat × List Int × Nat × List Int × Nat × List Int) := f138v1.T K x.1 x.2.1 x.2.2.1 x.2.2.2.1 x.2.2.2.2.1 x.2.2.2.2.2.1 x.2.2.2.2.2.2.1 x.2.2.2.2.2.2.2.1 x.2.2.2.2.2.2.2.2.1 x.2.2.2.2.2.2.2.2.2.1 x.2.2.2.2.2.2.2.2.2.2.1 x.2.2.2.2.2.2.2.2.2.2.2.1 x.2.2.2.2.2.2.2.2.2.2.2.2
def f138v1.av (x : ByteArray × Nat × Nat × Nat × Nat × Nat × List Int × Nat × List Int × Nat × List Int × Nat × List Int) : List VV := [.str x.1, .vw true 0 0 4 1]
def f138v1.bl (x : ByteArray × Nat × Nat × Nat × Nat × Nat × List Int × Nat × List Int × Nat × List Int × Nat × List Int) : List (Nat × Blk) := [(0, ([.vw true 2 0 x.2.1 3, .vw true 4 0 x.2.2.1 5, .vw true 6 0 x.2.2.2.1 7, .vw true 8 0 x.2.2.2.2.1 9], 0, .ro)), (2, ([.ints .u8 x.2.2.2.2.2.1 x.2.2.2.2.2.2.1], 0, .ro)), (4, ([.ints .u8 x.2.2.2.2.2.2.2.1 x.2.2.2.2.2.2.2.2.1], 0, .ro)), (6, ([.ints .u8 x.2.2.2.2.2.2.2.2.2.1 x.2.2.2.2.2.2.2.2.2.2.1], 0, .ro)), (8, ([.ints .u8 x.2.2.2.2.2.2.2.2.2.2.2.1 x.2.2.2.2.2.2.2.2.2.2.2.2], 0, .ro))]
def f138v1.inA : VS → Option (ByteArray × Nat × Nat × Nat × Nat × Nat × List Int × Nat × List Int × Nat × List Int × Nat × List Int)
  | ⟨[(0, .str a0), (1, .vw true 0 0 4 1)], [(0, ([.vw true 2 0 m0_0 3, .vw true 4 0 m0_1 5, .vw true 6 0 m0_2 7, .vw true 8 0 m0_3 9], 0, .ro)), (2, ([.ints .u8 m2_0 m2_1], 0, .ro)), (4, ([.ints .u8 m4_0 m4_1], 0, .ro)), (6, ([.ints .u8 m6_0 m6_1], 0, .ro)), (8, ([.ints .u8 m8_0 m8_1], 0, .ro))], 10⟩ => some (a0, m0_0, m0_1, m0_2, m0_3, m2_0, m2_1, m4_0, m4_1, m6_0, m6_1, m8_0, m8_1)
  | _ => none
def f138v1.o0 (y : List Int × Nat × Nat × Nat × Nat × Nat × List Int × Nat × List Int × Nat × List Int × Nat × List Int) : VS := ⟨[(0, .agg [.ints .u8 32 y.1])], [(0, ([.vw true 2 0 y.2.1 3, .vw true 4 0 y.2.2.1 5, .vw true 6 0 y.2.2.2.1 7, .vw true 8 0 y.2.2.2.2.1 9], 0, .ro)), (2, ([.ints .u8 y.2.2.2.2.2.1 y.2.2.2.2.2.2.1], 0, .ro)), (4, ([.ints .u8 y.2.2.2.2.2.2.2.1 y.2.2.2.2.2.2.2.2.1], 0, .ro)), (6, ([.ints .u8 y.2.2.2.2.2.2.2.2.2.1 y.2.2.2.2.2.2.2.2.2.2.1], 0, .ro)), (8, ([.ints .u8 y.2.2.2.2.2.2.2.2.2.2.2.1 y.2.2.2.2.2.2.2.2.2.2.2.2], 0, .ro))], 10⟩
def f138v1.des : ∀ α : Type, (List Int × Nat × Nat × Nat × Nat × Nat × List Int × Nat × List Int × Nat × List Int × Nat × List Int) → (VS → Option α) → Option α := (dv1 f138v1.o0)
def f138v1.out : List Int × Nat × Nat × Nat × Nat × Nat × List Int × Nat × List Int × Nat × List Int × Nat × List Int → VS := f138v1.o0
def f138v1.inR : VS → Option (List Int × Nat × Nat × Nat × Nat × Nat × List Int × Nat × List Int × Nat × List Int × Nat × List Int)
  | ⟨[(0, .agg [.ints .u8 32 y])], [(0, ([.vw true 2 0 z0_0 3, .vw true 4 0 z0_1 5, .vw true 6 0 z0_2 7, .vw true 8 0 z0_3 9], 0, .ro)), (2, ([.ints .u8 z2_0 z2_1], 0, .ro)), (4, ([.ints .u8 z4_0 z4_1], 0, .ro)), (6, ([.ints .u8 z6_0 z6_1], 0, .ro)), (8, ([.ints .u8 z8_0 z8_1], 0, .ro))], 10⟩ => some (y, z0_0, z0_1, z0_2, z0_3, z2_0, z2_1, z4_0, z4_1, z6_0, z6_1, z8_0, z8_1)
  | _ => none
noncomputable def f138v1.E (K : Nat) : Entry := genE 10 f138v1.inA (f138v1.F K) f138v1.des
theorem f138v1.eq (K : Nat) (x : ByteArray × Nat × Nat × Nat × Nat × Nat × List Int × Nat × List Int × Nat × List Int × Nat × List Int) : f138v1.F K x = xrun (getA tys) (tabSp (f138v1.tab K)) Try.f138.ntmps 10 (f138v1.lp K) 400 f138v1.c ⟨initL 0 (f138v1.av x), f138v1.bl x, 10⟩ (contF (getA tys) 10 Try.f138.results.toList f138v1.inR) := by kernel_rfl
theorem f138v1.ok (K : Nat) : EntryOK Try.prog 138 (f138v1.E K) :=
  gen_ok mix tys_ok (f138v1.tabOK K) Try.func138 (by kernel_rfl : Try.f138.body = some f138v1.c) (by kernel_rfl) (f138v1.loops K) (av := f138v1.av) (bl := f138v1.bl) (out := f138v1.out) (fuel := 400)
    (by intro s x h; unfold f138v1.inA at h; split at h <;> simp at h; subst h; rfl) (fun _ => Nat.le_of_ble_eq_true rfl)
    (by intro s y h; unfold f138v1.inR at h; split at h <;> simp at h <;> subst h <;> rfl) (fun _ _ _ => rfl) (f138v1.eq K)
end Go.Proofs

namespace Go.Proofs
open Go.VM
noncomputable def f137.c : Code := bodyOf Try.f137
def f137.lp (_ : Nat) : Nat → Option (Hint × Summ) := fun _ => none
noncomputable def f137.tab (K : Nat) : List (Nat × Entry) := [(138, (rowsE 1 .u8 (f138.E K))), (139, (viewE [(0, .u8)] (f139.E K)))]
theorem f137.tabOK (K : Nat) : SpecOK Try.prog (tabSp (f137.tab K)) := tab_ok ((tab_cons (rows_ok (f138.ok K)) (tab_cons (view_ok (f139.ok K)) tab_nil)))
theorem f137.loops (K : Nat) : LoopsOK Try.prog 21 7 (f137.lp K) f137.c := loops_ok (by
  have h : loopsIn (f137.lp K) f137.c = [] := by kernel_rfl
  rw [h]; simp)
def f137.T (K : Nat) (a0 : Int) (m0 : ByteArray) (m2_0 : Nat) (m2_1 : Nat) (m3_0 : Nat) (m3_1 : List Int) (m5_0 : Nat) (m5_1 : List Int) : Option (List Int × ByteArray × Nat × Nat × Nat × List Int × Nat × List Int × List Int) :=
  bif ((Nat.ble (0 + m2_0) m3_0 && true) && ((Nat.ble (0 + m2_1) m5_0 && true) && true)) then
    (f138.F K (m0, m2_0, m2_1, 1, m2_0, (subI m3_1 0 m2_0), m2_1, (subI m5_1 0 m2_1), 1, [a0])).bind fun y1 =>
    (f139.F K (32, 32, (subI y1.1 0 32))).bind fun y2 =>
    some (y2.1, m0, m2_0, m2_1, m3_0, m3_1, m5_0, m5_1, [a0])
  else
    none
def f137.F (K : Nat) (x : Int × ByteArray × Nat × Nat × Nat × List Int × Nat × List Int) : Option (List Int × ByteArray × Nat × Nat × Nat × List Int × Nat × List Int × List Int) := f137.T K x.1 x.2.1 x.2.2.1 x.2.2.2.1 x.2.2.2.2.1 x.2.2.2.2.2.1 x.2.2.2.2.2.2.1 x.2.2.2.2.2.2.2
def f137.av (x : Int × ByteArray × Nat × Nat × Nat × List Int × Nat × List Int) : List VV := [.int .u8 x.1, .ptr 0 0, .ptr 1 0]
def f137.bl (x : Int × ByteArray × Nat × Nat × Nat × List Int × Nat × List Int) : List (Nat × Blk) := [(0, ([.str x.2.1], 9, .norm)), (1, ([.sl 2 0 2 3], 122, .norm)), (2, ([.vw true 3 0 x.2.2.1 4, .vw true 5 0 x.2.2.2.1 6, .raw (.slice none 0 0)], 84, .norm)), (3, ([.ints .u8 x.2.2.2.2.1 x.2.2.2.2.2.1], 0, .ro)), (5, ([.ints .u8 x.2.2.2.2.2.2.1 x.2.2.2.2.2.2.2], 0, .ro))]
def f137.inA : VS → Option (Int × ByteArray × Nat × Nat × Nat × List Int × Nat × List Int)
  | ⟨[(0, .int .u8 a0), (1, .ptr 0 0), (2, .ptr 1 0)], [(0, ([.str m0], 9, .norm)), (1, ([.sl 2 0 2 3], 122, .norm)), (2, ([.vw true 3 0 m2_0 4, .vw true 5 0 m2_1 6, .raw (.slice none 0 0)], 84, .norm)), (3, ([.ints .u8 m3_0 m3_1], 0, .ro)), (5, ([.ints .u8 m5_0 m5_1], 0, .ro))], 7⟩ => some (a0, m0, m2_0, m2_1, m3_0, m3_1, m5_0, m5_1)
  | _ => none
def f137.o0 (y : List Int × ByteArray × Nat × Nat × Nat × List Int × Nat × List Int × List Int) : VS := ⟨[(0, .agg [.ints .u64 4 y.1])], [(0, ([.str y.2.1], 9, .norm)), (1, ([.sl 2 0 2 3], 122, .norm)), (2, ([.vw true 3 0 y.2.2.1 4, .vw true 5 0 y.2.2.2.1 6, .sl 7 0 1 1], 84, .norm)), (3, ([.ints .u8 y.2.2.2.2.1 y.2.2.2.2.2.1], 0, .ro)), (5, ([.ints .u8 y.2.2.2.2.2.2.1 y.2.2.2.2.2.2.2.1], 0, .ro)), (7, ([.ints .u8 1 y.2.2.2.2.2.2.2.2], 5, .norm))], 8⟩
def f137.des : ∀ α : Type, (List Int × ByteArray × Nat × Nat × Nat × List Int × Nat × List Int × List Int) → (VS → Option α) → Option α := (dv1 f137.o0)
def f137.out : List Int × ByteArray × Nat × Nat × Nat × List Int × Nat × List Int × List Int → VS := f137.o0
def f137.inR : VS → Option (List Int × ByteArray × Nat × Nat × Nat × List Int × Nat × List Int × List Int)
  | ⟨[(0, .agg [.ints .u64 4 y])], [(0, ([.str z0], 9, .norm)), (1, ([.sl 2 0 2 3], 122, .norm)), (2, ([.vw true 3 0 z2_0 4, .vw true 5 0 z2_1 6, .sl 7 0 1 1], 84, .norm)), (3, ([.ints .u8 z3_0 z3_1], 0, .ro)), (5, ([.ints .u8 z5_0 z5_1], 0, .ro)), (7, ([.ints .u8 1 z7], 5, .norm))], 8⟩ => some (y, z0, z2_0, z2_1, z3_0, z3_1, z5_0, z5_1, z7)
  | _ => none
noncomputable def f137.E (K : Nat) : Entry := genE 7 f137.inA (f137.F K) f137.des
theorem f137.eq (K : Nat) (x : Int × ByteArray × Nat × Nat × Nat × List Int × Nat × List Int) : f137.F K x = xrun (getA tys) (tabSp (f137.tab K)) Try.f137.ntmps 7 (f137.lp K) 400 f137.c ⟨initL 0 (f137.av x), f137.bl x, 7⟩ (contF (getA tys) 7 Try.f137.results.toList f137.inR) := by kernel_rfl
theorem f137.ok (K : Nat) : EntryOK Try.prog 137 (f137.E K) :=
  gen_ok mix tys_ok (f137.tabOK K) Try.func137 (by kernel_rfl : Try.f137.body = some f137.c) (by kernel_rfl) (f137.loops K) (av := f137.av) (bl := f137.bl) (out := f137.out) (fuel := 400)
    (by intro s x h; unfold f137.inA at h; split at h <;> simp at h; subst h; rfl) (fun _ => Nat.le_of_ble_eq_true rfl)
    (by intro s y h; unfold f137.inR at h; split at h <;> simp at h <;> subst h <;> rfl) (fun _ _ _ => rfl) (f137.eq K)
end Go.Proofs

namespace Go.Proofs
open Go.VM
noncomputable def f137v1.c : Code := bodyOf Try.f137
def f137v1.lp (_ : Nat) : Nat → Option (Hint × Summ) := fun _ => none
noncomputable def f137v1.tab (K : Nat) : List (Nat × Entry) := [(138, (rowsE 1 .u8 (f138.E K))), (139, (viewE [(0, .u8)] (f139.E K)))]
theorem f137v1.tabOK (K : Nat) : SpecOK Try.prog (tabSp (f137v1.tab K)) := tab_ok ((tab_cons (rows_ok (f138.ok K)) (tab_cons (view_ok (f139.ok K)) tab_nil)))
theorem f137v1.loops (K : Nat) : LoopsOK Try.prog 21 8 (f137v1.lp K) f137v1.c := loops_ok (by
  have h : loopsIn (f137v1.lp K) f137v1.c = [] := by kernel_rfl
  rw [h]; simp)
def f137v1.T (K : Nat) (a0 : Int) (m0 : ByteArray) (m2_0 : Nat) (m2_1 : Nat) (m3_0 : Nat) (m3_1 : List Int) (m5_0 : Nat) (m5_1 : List Int) (m7 : List Int) : Option (List Int × ByteArray × Nat × Nat × Nat × List Int × Nat × List Int × List Int × List Int) :=
  bif ((Nat.ble (0 + m2_0) m3_0 && true) && ((Nat.ble (0 + m2_1) m5_0 && true) && true)) then
    (f138.F K (m0, m2_0, m2_1, 1, m2_0, (subI m3_1 0 m2_0), m2_1, (subI m5_1 0 m2_1), 1, [a0])).bind fun y1 =>
    (f139.F K (32, 32, (subI y1.1 0 32))).bind fun y2 =>
    some (y2.1, m0, m2_0, m2_1, m3_0, m3_1, m5_0, m5_1, m7, [a0])
  else
    none
def f137v1.F (K : Nat) (x : Int × ByteArray × Nat × Nat × Nat × List Int × Nat × List Int × List Int) : Option (List Int × ByteArray × Nat × Nat × Nat × List Int × Nat × List Int × List Int × List Int) := f137v1.T K x.1 x.2.1 x.2.2.1 x.2.2.2.1 x.2.2.2.2.1 x.2.2.2.2.2.1 x.2.2.2.2.2.2.1 x.2.2.2.2.2.2.2.1 x.2.2.2.2.2.2.2.2
def f137v1.av (x : Int × ByteArray × Nat × Nat × Nat × List Int × Nat × List Int × List Int) : List VV := [.int .u8 x.1, .ptr 0 0, .ptr 1 0]
def f137v1.bl (x : Int × ByteArray × Nat × Nat × Nat × List Int × Nat × List Int × List Int) : List (Nat × Blk) := [(0, ([.str x.2.1], 9, .norm)), (1, ([.sl 2 0 2 3], 122, .norm)), (2, ([.vw true 3 0 x.2.2.1 4, .vw true 5 0 x.2.2.2.1 6, .sl 7 0 1 1], 84, .norm)), (3, ([.ints .u8 x.2.2.2.2.1 x.2.2.2.2.2.1], 0, .ro)), (5, ([.ints .u8 x.2.2.2.2.2.2.1 x.2.2.2.2.2.2.2.1], 0, .ro)), (7, ([.ints .u8 1 x.2.2.2.2.2.2.2.2], 5, .norm))]
def f137v1.inA : VS → Option (Int × ByteArray × Nat × Nat × Nat × List Int × Nat × List Int × List Int)
  | ⟨[(0, .int .u8 a0), (1, .ptr 0 0), (2, .ptr 1 0)], [(0, ([.str m0], 9, .norm)), (1, ([.sl 2 0 2 3], 122, .norm)), (2, ([.vw true 3 0 m2_0 4, .vw true 5 0 m2_1 6, .sl 7 0 1 1], 84, .norm)), (3, ([.ints .u8 m3_0 m3_1], 0, .ro)), (5, ([.ints .u8 m5_0 m5_1], 0, .ro)), (7, ([.ints .u8 1 m7], 5, .norm))], 8⟩ => some (a0, m0, m2_0, m2_1, m3_0, m3_1, m5_0, m5_1, m7)
  | _ => none
def f137v1.o0 (y : List Int × ByteArray × Nat × Nat × Nat × List Int × Nat × List Int × List Int × List Int) : VS := ⟨[(0, .agg [.ints .u64 4 y.1])], [(0, ([.str y.2.1], 9, .norm)), (1, ([.sl 2 0 2 3], 122, .norm)), (2, ([.vw true 3 0 y.2.2.1 4, .vw true 5 0 y.2.2.2.1 6, .sl 8 0 1 1], 84, .norm)), (3, ([.ints .u8 y.2.2.2.2.1 y.2.2.2.2.2.1], 0, .ro)), (5, ([.ints .u8 y.2.2.2.2.2.2.1 y.2.2.2.2.2.2.2.1], 0, .ro)), (7, ([.ints .u8 1 y.2.2.2.2.2.2.2.2.1], 5, .norm)), (8, ([.ints .u8 1 y.2.2.2.2.2.2.2.2.2], 5, .norm))], 9⟩
def f137v1.des : ∀ α : Type, (List Int × ByteArray × Nat × Nat × Nat × List Int × Nat × List Int × List Int × List Int) → (VS → Option α) → Option α := (dv1 f137v1.o0)
def f137v1.out : List Int × ByteArray × Nat × Nat × Nat × List Int × Nat × List Int × List Int × List Int → VS := f137v1.o0
def f137v1.inR : VS → Option (List Int × ByteArray × Nat × Nat × Nat × List Int × Nat × List Int × List Int × List Int)
  | ⟨[(0, .agg [.ints .u64 4 y])], [(0, ([.str z0], 9, .norm)), (1, ([.sl 2 0 2 3], 122, .norm)), (2, ([.vw true 3 0 z2_0 4, .vw true 5 0 z2_1 6, .sl 8 0 1 1], 84, .norm)), (3, ([.ints .u8 z3_0 z3_1], 0, .ro)), (5, ([.ints .u8 z5_0 z5_1], 0, .ro)), (7, ([.ints .u8 1 z7], 5, .norm)), (8, ([.ints .u8 1 z8], 5, .norm))], 9⟩ => some (y, z0, z2_0, z2_1, z3_0, z3_1, z5_0, z5_1, z7, z8)
  | _ => none
noncomputable def f137v1.E (K : Nat) : Entry := genE 8 f137v1.inA (f137v1.F K) f137v1.des
theorem f137v1.eq (K : Nat) (x : Int × ByteArray × Nat × Nat × Nat × List Int × Nat × List Int × List Int) : f137v1.F K x = xrun (getA tys) (tabSp (f137v1.tab K)) Try.f137.ntmps 8 (f137v1.lp K) 400 f137v1.c ⟨initL 0 (f137v1.av x), f137v1.bl x, 8⟩ (contF (getA tys) 8 Try.f137.results.toList f137v1.inR) := by kernel_rfl
theorem f137v1.ok (K : Nat) : EntryOK Try.prog 137 (f137v1.E K) :=
  gen_ok mix tys_ok (f137v1.tabOK K) Try.func137 (by kernel_rfl : Try.f137.body = some f137v1.c) (by kernel_rfl) (f137v1.loops K) (av := f137v1.av) (bl := f137v1.bl) (out := f137v1.out) (fuel := 400)
    (by intro s x h; unfold f137v1.inA at h; split at h <;> simp at h; subst h; rfl) (fun _ => Nat.le_of_ble_eq_true rfl)
    (by intro s y h; unfold f137v1.inR at h; split at h <;> simp at h <;> subst h <;> rfl) (fun _ _ _ => rfl) (f137v1.eq K)
end Go.Proofs

namespace Go.Proofs
open Go.VM
noncomputable def f137v2.c : Code := bodyOf Try.f137
def f137v2.lp (_ : Nat) : Nat → Option (Hint × Summ) := fun _ => none
noncomputable def f137v2.tab (K : Nat) : List (Nat × Entry) := [(138, (rowsE 1 .u8 (f138v1.E K))), (139, (viewE [(0, .u8)] (f139.E K)))]
theorem f137v2.tabOK (K : Nat) : SpecOK Try.prog (tabSp (f137v2.tab K)) := tab_ok ((tab_cons (rows_ok (f138v1.ok K)) (tab_cons (view_ok (f139.ok K)) tab_nil)))
theorem f137v2.loops (K : Nat) : LoopsOK Try.prog 21 9 (f137v2.lp K) f137v2.c := loops_ok (by
  have h : loopsIn (f137v2.lp K) f137v2.c = [] := by kernel_rfl
  rw [h]; simp)
def f137v2.T (K : Nat) (a0 : Int) (m0 : ByteArray) (m2_0 : Nat) (m2_1 : Nat) (m2_2 : Nat) (m3_0 : Nat) (m3_1 : List Int) (m5_0 : Nat) (m5_1 : List Int) (m7_0 : Nat) (m7_1 : List Int) : Option (List Int × ByteArray × Nat × Nat × Nat × Nat × List Int × Nat × List Int × Nat × List Int × List Int) :=
  bif ((Nat.ble (0 + m2_0) m3_0 && true) && ((Nat.ble (0 + m2_1) m5_0 && true) && ((Nat.ble (0 + m2_2) m7_0 && true) && true))) then
    (f138v1.F K (m0, m2_0, m2_1, m2_2, 1, m2_0, (subI m3_1 0 m2_0), m2_1, (subI m5_1 0 m2_1), m2_2, (subI m7_1 0 m2_2), 1, [a0])).bind fun y1 =>
    (f139.F K (32, 32, (subI y1.1 0 32))).bind fun y2 =>
    some (y2.1, m0, m2_0, m2_1, m2_2, m3_0, m3_1, m5_0, m5_1, m7_0, m7_1, [a0])
  else
    none
def f137v2.F (K : Nat) (x : Int × ByteArray × Nat × Nat × Nat × Nat × List Int × Nat × List Int × Nat × List Int) : Option (List Int × ByteArray × Nat × Nat × Nat × Nat × List Int × Nat × List Int × Nat × List Int × List Int) := f137v2.T K x.1 x.2.1 x.2.2.1 x.2.2.2.1 x.2.2.2.2.1 x.2.2.2.2.2.1 x.2.2.2.2.2.2.1 x.2.2.2.2.2.2.2.1 x.2.2.2.2.2.2.2.2.1 x.2.2.2.2.2.2.2.2.2.1 x.2.2.2.2.2.2.2.2.2.2
def f137v2.av (x : Int × ByteArray × Nat × Nat × Nat × Nat × List Int × Nat × List Int × Nat × List Int) : List VV := [.int .u8 x.1, .ptr 0 0, .ptr 1 0]
def f137v2.bl (x : Int × ByteArray × Nat × Nat × Nat × Nat × List Int × Nat × List Int × Nat × List Int) : List (Nat × Blk) := [(0, ([.str x.2.1], 9, .norm)), (1, ([.sl 2 0 3 4], 122, .norm)), (2, ([.vw true 3 0 x.2.2.1 4, .vw true 5 0 x.2.2.2.1 6, .vw true 7 0 x.2.2.2.2.1 8, .raw (.slice none 0 0)], 84, .norm)), (3, ([.ints .u8 x.2.2.2.2.2.1 x.2.2.2.2.2.2.1], 0, .ro)), (5, ([.ints .u8 x.2.2.2.2.2.2.2.1 x.2.2.2.2.2.2.2.2.1], 0, .ro)), (7, ([.ints .u8 x.2.2.2.2.2.2.2.2.2.1 x.2.2.2.2.2.2.2.2.2.2], 0, .ro))]
def f137v2.inA : VS → Option (Int × ByteArray × Nat × Nat × Nat × Nat × List Int × Nat × List Int × Nat × List Int)
  | ⟨[(0, .int .u8 a0), (1, .ptr 0 0), (2, .ptr 1 0)], [(0, ([.str m0], 9, .norm)), (1, ([.sl 2 0 3 4], 122, .norm)), (2, ([.vw true 3 0 m2_0 4, .vw true 5 0 m2_1 6, .vw true 7 0 m2_2 8, .raw (.slice none 0 0)], 84, .norm)), (3, ([.ints .u8 m3_0 m3_1], 0, .ro)), (5, ([.ints .u8 m5_0 m5_1], 0, .ro)), (7, ([.ints .u8 m7_0 m7_1], 0, .ro))], 9⟩ => some (a0, m0, m2_0, m2_1, m2_2, m3_0, m3_1, m5_0, m5_1, m7_0, m7_1)
  | _ => none
def f137v2.o0 (y : List Int × ByteArray × Nat × Nat × Nat × Nat × List Int × Nat × List Int × Nat × List Int × List Int) : VS := ⟨[(0, .agg [.ints .u64 4 y.1])], [(0, ([.str y.2.1], 9, .norm)), (1, ([.sl 2 0 3 4], 122, .norm)), (2, ([.vw true 3 0 y.2.2.1 4, .vw true 5 0 y.2.2.2.1 6, .vw true 7 0 y.2.2.2.2.1 8, .sl 9 0 1 1], 84, .norm)), (3, ([.ints .u8 y.2.2.2.2.2.1 y.2.2.2.2.2.2.1], 0, .ro)), (5, ([.ints .u8 y.2.2.2.2.2.2.2.1 y.2.2.2.2.2.2.2.2.1], 0, .ro)), (7, ([.ints .u8 y.2.2.2.2.2.2.2.2.2.1 y.2.2.2.2.2.2.2.2.2.2.1], 0, .ro)), (9, ([.ints .u8 1 y.2.2.2.2.2.2.2.2.2.2.2], 5, .norm))], 10⟩
def f137v2.des : ∀ α : Type, (List Int × ByteArray × Nat × Nat × Nat × Nat × List Int × Nat × List Int × Nat × List Int × List Int) → (VS → Option α) → Option α := (dv1 f137v2.o0)
def f137v2.out : List Int × ByteArray × Nat × Nat × Nat × Nat × List Int × Nat × List Int × Nat × List Int × List Int → VS := f137v2.o0
def f137v2.inR : VS → Option (List Int × ByteArray × Nat × Nat × Nat × Nat × List Int × Nat × List Int × Nat × List Int × List Int)
  | ⟨[(0, .agg [.ints .u64 4 y])], [(0, ([.str z0], 9, .norm)), (1, ([.sl 2 0 3 4], 122, .norm)), (2, ([.vw true 3 0 z2_0 4, .vw true 5 0 z2_1 6, .vw true 7 0 z2_2 8, .sl 9 0 1 1], 84, .norm)), (3, ([.ints .u8 z3_0 z3_1], 0, .ro)), (5, ([.ints .u8 z5_0 z5_1], 0, .ro)), (7, ([.ints .u8 z7_0 z7_1], 0, .ro)), (9, ([.ints .u8 1 z9], 5, .norm))], 10⟩ => some (y, z0, z2_0, z2_1, z2_2, z3_0, z3_1, z5_0, z5_1, z7_0, z7_1, z9)
  | _ => none
noncomputable def f137v2.E (K : Nat) : Entry := genE 9 f137v2.inA (f137v2.F K) f137v2.des
theorem f137v2.eq (K : Nat) (x : Int × ByteArray × Nat × Nat × Nat × Nat × List Int × Nat × List Int × Nat × List Int) : f137v2.F K x = xrun (getA tys) (tabSp (f137v2.tab K)) Try.f137.ntmps 9 (f137v2.lp K) 400 f137v2.c ⟨initL 0 (f137v2.av x), f137v2.bl x, 9⟩ (contF (getA tys) 9 Try.f137.results.toList f137v2.inR) := by kernel_rfl
theorem f137v2.ok (K : Nat) : EntryOK Try.prog 137 (f137v2.E K) :=
  gen_ok mix tys_ok (f137v2.tabOK K) Try.func137 (by kernel_rfl : Try.f137.body = some f137v2.c) (by kernel_rfl) (f137v2.loops K) (av := f137v2.av) (bl := f137v2.bl) (out := f137v2.out) (fuel := 400)
    (by intro s x h; unfold f137v2.inA at h; split at h <;> simp at h; subst h; rfl) (fun _ => Nat.le_of_ble_eq_true rfl)
    (by intro s y h; unfold f137v2.inR at h; split at h <;> simp at h <;> subst h <;> rfl) (fun _ _ _ => rfl) (f137v2.eq K)
end Go.Proofs

namespace Go.Proofs
open Go.VM
noncomputable def f137v3.c : Code := bodyOf Try.f137
def f137v3.lp (_ : Nat) : Nat → Option (Hint × Summ) := fun _ => none
noncomputable def f137v3.tab (K : Nat) : List (Nat × Entry) := [(138, (rowsE 1 .u8 (f138v1.E K))), (139, (viewE [(0, .u8)] (f139.E K)))]
theorem f137v3.tabOK (K : Nat) : SpecOK Try.prog (tabSp (f137v3.tab K)) := tab_ok ((tab_cons (rows_ok (f138v1.ok K)) (tab_cons (view_ok (f139.ok K)) tab_nil)))
theorem f137v3.loops (K : Nat) : LoopsOK Try.prog 21 10 (f137v3.lp K) f137v3.c := loops_ok (by
  have h : loopsIn (f137v3.lp K) f137v3.c = [] := by kernel_rfl
  rw [h]; simp)
def f137v3.T (K : Nat) (a0 : Int) (m0 : ByteArray) (m2_0 : Nat) (m2_1 : Nat) (m2_2 : Nat) (m3_0 : Nat) (m3_1 : List Int) (m5_0 : Nat) (m5_1 : List Int) (m7_0 : Nat) (m7_1 : List Int) (m9 : List Int) : Option (List Int × ByteArray × Nat × Nat × Nat × Nat × List Int × Nat × List Int × Nat × List Int × List Int × List Int) :=
  bif ((Nat.ble (0 + m2_0) m3_0 && true) && ((Nat.ble (0 + m2_1) m5_0 && true) && ((Nat.ble (0 + m2_2) m7_0 && true) && true))) then
    (f138v1.F K (m0, m2_0, m2_1, m2_2, 1, m2_0, (subI m3_1 0 m2_0), m2_1, (subI m5_1 0 m2_1), m2_2, (subI m7_1 0 m2_2), 1, [a0])).bind fun y1 =>
    (f139.F K (32, 32, (subI y1.1 0 32))).bind fun y2 =>
    some (y2.1, m0, m2_0, m2_1, m2_2, m3_0, m3_1, m5_0, m5_1, m7_0, m7_1, m9, [a0])
  else
    none
def f137v3.F (K : Nat) (x : Int × ByteArray × Nat × Nat × Nat × Nat × List Int × Nat × List Int × Nat × List Int × List Int) : Option (List Int × ByteArray × Nat × Nat × Nat × Nat × List Int × Nat × List Int × Nat × List Int × List Int × List Int) := f137v3.T K x.1 x.2.1 x.2.2.1 x.2.2.2.1 x.2.2.2.2.1 x.2.2.2.2.2.1 x.2.2.2.2.2.2.1 x.2.2.2.2.2.2.2.1 x.2.2.2.2.2.2.2.2.1 x.2.2.2.2.2.2.2.2.2.1 x.2.2.2.2.2.2.2.2.2.2.1 x.2.2.2.2.2.2.2.2.2.2.2
def f137v3.av (x : Int × ByteArray × Nat × Nat × Nat × Nat × List Int × Nat × List Int × Nat × List Int × List Int) : List VV := [.int .u8 x.1, .ptr 0 0, .ptr 1 0]
def f137v3.bl (x : Int × ByteArray × Nat × Nat × Nat × Nat × List Int × Nat × List Int × Nat × List Int × List Int) : List (Nat × Blk) := [(0, ([.str x.2.1], 9, .norm)), (1, ([.sl 2 0 3 4], 122, .norm)), (2, ([.vw true 3 0 x.2.2.1 4, .vw true 5 0 x.2.2.2.1 6, .vw true 7 0 x.2.2.2.2.1 8, .sl 9 0 1 1], 84, .norm)), (3, ([.ints .u8 x.2.2.2.2.2.1 x.2.2.2.2.2.2.1], 0, .ro)), (5, ([.ints .u8 x.2.2.2.2.2.2.2.1 x.2.2.2.2.2.2.2.2.1], 0, .ro)), (7, ([.ints .u8 x.2.2.2.2.2.2.2.2.2.1 x.2.2.2.2.2.2.2.2.2.2.1], 0, .ro)), (9, ([.ints .u8 1 x.2.2.2.2.2.2.2.2.2.2.2], 5, .norm))]
def f137v3.inA : VS → Option (Int × ByteArray × Nat × Nat × Nat × Nat × List Int × Nat × List Int × Nat × List Int × List Int)
  | ⟨[(0, .int .u8 a0), (1, .ptr 0 0), (2, .ptr 1 0)], [(0, ([.str m0], 9, .norm)), (1, ([.sl 2 0 3 4], 122, .norm)), (2, ([.vw true 3 0 m2_0 4, .vw true 5 0 m2_1 6, .vw true 7 0 m2_2 8, .sl 9 0 1 1], 84, .norm)), (3, ([.ints .u8 m3_0 m3_1], 0, .ro)), (5, ([.ints .u8 m5_0 m5_1], 0, .ro)), (7, ([.ints .u8 m7_0 m7_1], 0, .ro)), (9, ([.ints .u8 1 m9], 5, .norm))], 10⟩ => some (a0, m0, m2_0, m2_1, m2_2, m3_0, m3_1, m5_0, m5_1, m7_0, m7_1, m9)
  | _ => none
def f137v3.o0 (y : List Int × ByteArray × Nat × Nat × Nat × Nat × List Int × Nat × List Int × Nat × List Int × List Int × List Int) : VS := ⟨[(0, .agg [.ints .u64 4 y.1])], [(0, ([.str y.2.1], 9, .norm)), (1, ([.sl 2 0 3 4], 122, .norm)), (2, ([.vw true 3 0 y.2.2.1 4, .vw true 5 0 y.2.2.2.1 6, .vw true 7 0 y.2.2.2.2.1 8, .sl 10 0 1 1], 84, .norm)), (3, ([.ints .u8 y.2.2.2.2.2.1 y.2.2.2.2.2.2.1], 0, .ro)), (5, ([.ints .u8 y.2.2.2.2.2.2.2.1 y.2.2.2.2.2.2.2.2.1], 0, .ro)), (7, ([.ints .u8 y.2.2.2.2.2.2.2.2.2.1 y.2.2.2.2.2.2.2.2.2.2.1], 0, .ro)), (9, ([.ints .u8 1 y.2.2.2.2.2.2.2.2.2.2.2.1], 5, .norm)), (10, ([.ints .u8 1 y.2.2.2.2.2.2.2.2.2.2.2.2], 5, .norm))], 11⟩
def f137v3.des : ∀ α : Type, (List Int × ByteArray × Nat × Nat × Nat × Nat × List Int × Nat × List Int × Nat × List Int × List Int × List Int) → (VS → Option α) → Option α := (dv1 f137v3.o0)
def f137v3.out : List Int × ByteArray × Nat × Nat × Nat × Nat × List Int × Nat × List Int × Nat × List Int × List Int × List Int → VS := f137v3.o0
def f137v3.inR : VS → Option (List Int × ByteArray × Nat × Nat × Nat × Nat × List Int × Nat × List Int × Nat × List Int × List Int × List Int)
  | ⟨[(0, .agg [.ints .u64 4 y])], [(0, ([.str z0], 9, .norm)), (1, ([.sl 2 0 3 4], 122, .norm)), (2, ([.vw true 3 0 z2_0 4, .vw true 5 0 z2_1 6, .vw true 7 0 z2_2 8, .sl 10 0 1 1], 84, .norm)), (3, ([.ints .u8 z3_0 z3_1], 0, .ro)), (5, ([.ints .u8 z5_0 z5_1], 0, .ro)), (7, ([.ints .u8 z7_0 z7_1], 0, .ro)), (9, ([.ints .u8 1 z9], 5, .norm)), (10, ([.ints .u8 1 z10], 5, .norm))], 11⟩ => some (y, z0, z2_0, z2_1, z2_2, z3_0, z3_1, z5_0, z5_1, z7_0, z7_1, z9, z10)
  | _ => none
noncomputable def f137v3.E (K : Nat) : Entry := genE 10 f137v3.inA (f137v3.F K) f137v3.des
theorem f137v3.eq (K : Nat) (x : Int × ByteArray × Nat × Nat × Nat × Nat × List Int × Nat × List Int × Nat × List Int × List Int) : f137v3.F K x = xrun (getA tys) (tabSp (f137v3.tab K)) Try.f137.ntmps 10 (f137v3.lp K) 400 f137v3.c ⟨initL 0 (f137v3.av x), f137v3.bl x, 10⟩ (contF (getA tys) 10 Try.f137.results.toList f137v3.inR) := by kernel_rfl
theorem f137v3.ok (K : Nat) : EntryOK Try.prog 137 (f137v3.E K) :=
  gen_ok mix tys_ok (f137v3.tabOK K) Try.func137 (by kernel_rfl : Try.f137.body = some f137v3.c) (by kernel_rfl) (f137v3.loops K) (av := f137v3.av) (bl := f137v3.bl) (out := f137v3.out) (fuel := 400)
    (by intro s x h; unfold f137v3.inA at h; split at h <;> simp at h; subst h; rfl) (fun _ => Nat.le_of_ble_eq_true rfl)
    (by intro s y h; unfold f137v3.inR at h; split at h <;> simp at h <;> subst h <;> rfl) (fun _ _ _ => rfl) (f137v3.eq K)
end Go.Proofs

namespace Go.Proofs
open Go.VM
noncomputable def f129.c : Code := bodyOf Try.f129
def f129.lp (_ : Nat) : Nat → Option (Hint × Summ) := fun _ => none
noncomputable def f129.tab (K : Nat) : List (Nat × Entry) := [(137, (orF (fitE 7 f137.inA) (f137.E K) (f137v1.E K))), (54, (f54.E K))]
theorem f129.tabOK (K : Nat) : SpecOK Try.prog (tabSp (f129.tab K)) := tab_ok ((tab_cons (orF_ok (f137.ok K) (f137v1.ok K)) (tab_cons (f54.ok K) tab_nil)))
theorem f129.loops (K : Nat) : LoopsOK Try.prog 28 6 (f129.lp K) f129.c := loops_ok (by
  have h : loopsIn (f129.lp K) f129.c = [] := by kernel_rfl
  rw [h]; simp)
def f129.T (K : Nat) (a0 : List Int) (a1 : ByteArray) (m0_0 : Nat) (m0_1 : Nat) (m2_0 : Nat) (m2_1 : List Int) (m4_0 : Nat) (m4_1 : List Int) : Option (List Int × Int × Nat × Nat × Nat × List Int × Nat × List Int) :=
  (f137.F K (1, a1, m0_0, m0_1, m2_0, m2_1, m4_0, m4_1)).bind fun y1 =>
  (f137v1.F K (0, y1.2.1, y1.2.2.1, y1.2.2.2.1, m2_0, m2_1, m4_0, m4_1, y1.2.2.2.2.2.2.2.2)).bind fun y2 =>
  (f54.F K (y1.1, y2.1, a0)).bind fun y3 =>
  some (y3.1, y3.2, m0_0, m0_1, m2_0, m2_1, m4_0, m4_1)
def f129.F (K : Nat) (x : List Int × ByteArray × Nat × Nat × Nat × List Int × Nat × List Int) : Option (List Int × Int × Nat × Nat × Nat × List Int × Nat × List Int) := f129.T K x.1 x.2.1 x.2.2.1 x.2.2.2.1 x.2.2.2.2.1 x.2.2.2.2.2.1 x.2.2.2.2.2.2.1 x.2.2.2.2.2.2.2
def f129.av (x : List Int × ByteArray × Nat × Nat × Nat × List Int × Nat × List Int) : List VV := [.agg [.ints .u64 4 x.1], .str x.2.1, .vw true 0 0 2 1]
def f129.bl (x : List Int × ByteArray × Nat × Nat × Nat × List Int × Nat × List Int) : List (Nat × Blk) := [(0, ([.vw true 2 0 x.2.2.1 3, .vw true 4 0 x.2.2.2.1 5], 0, .ro)), (2, ([.ints .u8 x.2.2.2.2.1 x.2.2.2.2.2.1], 0, .ro)), (4, ([.ints .u8 x.2.2.2.2.2.2.1 x.2.2.2.2.2.2.2], 0, .ro))]
def f129.inA : VS → Option (List Int × ByteArray × Nat × Nat × Nat × List Int × Nat × List Int)
  | ⟨[(0, .agg [.ints .u64 4 a0]), (1, .str a1), (2, .vw true 0 0 2 1)], [(0, ([.vw true 2 0 m0_0 3, .vw true 4 0 m0_1 5], 0, .ro)), (2, ([.ints .u8 m2_0 m2_1], 0, .ro)), (4, ([.ints .u8 m4_0 m4_1], 0, .ro))], 6⟩ => some (a0, a1, m0_0, m0_1, m2_0, m2_1, m4_0, m4_1)
  | _ => none
def f129.o0 (y : List Int × Int × Nat × Nat × Nat × List Int × Nat × List Int) : VS := ⟨[(0, .tup [.agg [.ints .u64 4 y.1], .int .i64 y.2.1])], [(0, ([.vw true 2 0 y.2.2.1 3, .vw true 4 0 y.2.2.2.1 5], 0, .ro)), (2, ([.ints .u8 y.2.2.2.2.1 y.2.2.2.2.2.1], 0, .ro)), (4, ([.ints .u8 y.2.2.2.2.2.2.1 y.2.2.2.2.2.2.2], 0, .ro))], 6⟩
def f129.des : ∀ α : Type, (List Int × Int × Nat × Nat × Nat × List Int × Nat × List Int) → (VS → Option α) → Option α := (dv1 f129.o0)
def f129.out : List Int × Int × Nat × Nat × Nat × List Int × Nat × List Int → VS := f129.o0
def f129.inR : VS → Option (List Int × Int × Nat × Nat × Nat × List Int × Nat × List Int)
  | ⟨[(0, .tup [.agg [.ints .u64 4 y_0], .int .i64 y_1])], [(0, ([.vw true 2 0 z0_0 3, .vw true 4 0 z0_1 5], 0, .ro)), (2, ([.ints .u8 z2_0 z2_1], 0, .ro)), (4, ([.ints .u8 z4_0 z4_1], 0, .ro))], 6⟩ => some (y_0, y_1, z0_0, z0_1, z2_0, z2_1, z4_0, z4_1)
  | _ => none
noncomputable def f129.E (K : Nat) : Entry := genE 6 f129.inA (f129.F K) f129.des
theorem f129.eq (K : Nat) (x : List Int × ByteArray × Nat × Nat × Nat × List Int × Nat × List Int) : f129.F K x = xrun (getA tys) (tabSp (f129.tab K)) Try.f129.ntmps 6 (f129.lp K) 400 f129.c ⟨initL 0 (f129.av x), f129.bl x, 6⟩ (contF (getA tys) 6 Try.f129.results.toList f129.inR) := by kernel_rfl
theorem f129.ok (K : Nat) : EntryOK Try.prog 129 (f129.E K) :=
  gen_ok mix tys_ok (f129.tabOK K) Try.func129 (by kernel_rfl : Try.f129.body = some f129.c) (by kernel_rfl) (f129.loops K) (av := f129.av) (bl := f129.bl) (out := f129.out) (fuel := 400)
    (by intro s x h; unfold f129.inA at h; split at h <;> simp at h; subst h; rfl) (fun _ => Nat.le_of_ble_eq_true rfl)
    (by intro s y h; unfold f129.inR at h; split at h <;> simp at h <;> subst h <;> rfl) (fun _ _ _ => rfl) (f129.eq K)
end Go.Proofs

namespace Go.Proofs
open Go.VM
noncomputable def f129v1.c : Code := bodyOf Try.f129
def f129v1.lp (_ : Nat) : Nat → Option (Hint × Summ) := fun _ => none
noncomputable def f129v1.tab (K : Nat) : List (Nat × Entry) := [(137, (orF (fitE 9 f137v2.inA) (f137v2.E K) (f137v3.E K))), (54, (f54.E K))]
theorem f129v1.tabOK (K : Nat) : SpecOK Try.prog (tabSp (f129v1.tab K)) := tab_ok ((tab_cons (orF_ok (f137v2.ok K) (f137v3.ok K)) (tab_cons (f54.ok K) tab_nil)))
theorem f129v1.loops (K : Nat) : LoopsOK Try.prog 28 8 (f129v1.lp K) f129v1.c := loops_ok (by
  have h : loopsIn (f129v1.lp K) f129v1.c = [] := by kernel_rfl
  rw [h]; simp)
def f129v1.T (K : Nat) (a0 : List Int) (a1 : ByteArray) (m0_0 : Nat) (m0_1 : Nat) (m0_2 : Nat) (m2_0 : Nat) (m2_1 : List Int) (m4_0 : Nat) (m4_1 : List Int) (m6_0 : Nat) (m6_1 : List Int) : Option (List Int × Int × Nat × Nat × Nat × Nat × List Int × Nat × List Int × Nat × List Int) :=
  (f137v2.F K (1, a1, m0_0, m0_1, m0_2, m2_0, m2_1, m4_0, m4_1, m6_0, m6_1)).bind fun y1 =>
  (f137v3.F K (0, y1.2.1, y1.2.2.1, y1.2.2.2.1, y1.2.2.2.2.1, m2_0, m2_1, m4_0, m4_1, m6_0, m6_1, y1.2.2.2.2.2.2.2.2.2.2.2)).bind fun y2 =>
  (f54.F K (y1.1, y2.1, a0)).bind fun y3 =>
  some (y3.1, y3.2, m0_0, m0_1, m0_2, m2_0, m2_1, m4_0, m4_1, m6_0, m6_1)
def f129v1.F (K : Nat) (x : List Int × ByteArray × Nat × Nat × Nat × Nat × List Int × Nat × List Int × Nat × List Int) : Option (List Int × Int × Nat × Nat × Nat × Nat × List Int × Nat × List Int × Nat × List Int) := f129v1.T K x.1 x.2.1 x.2.2.1 x.2.2.2.1 x.2.2.2.2.1 x.2.2.2.2.2.1 x.2.2.2.2.2.2.1 x.2.2.2.2.2.2.2.1 x.2.2.2.2.2.2.2.2.1 x.2.2.2.2.2.2.2.2.2.1 x.2.2.2.2.2.2.2.2.2.2
def f129v1.av (x : List Int × ByteArray × Nat × Nat × Nat × Nat × List Int × Nat × List Int × Nat × List Int) : List VV := [.agg [.ints .u64 4 x.1], .str x.2.1, .vw true 0 0 3 1]
def f129v1.bl (x : List Int × ByteArray × Nat × Nat × Nat × Nat × List Int × Nat × List Int × Nat × List Int) : List (Nat × Blk) := [(0, ([.vw true 2 0 x.2.2.1 3, .vw true 4 0 x.2.2.2.1 5, .vw true 6 0 x.2.2.2.2.1 7], 0, .ro)), (2, ([.ints .u8 x.2.2.2.2.2.1 x.2.2.2.2.2.2.1], 0, .ro)), (4, ([.ints .u8 x.2.2.2.2.2.2.2.1 x.2.2.2.2.2.2.2.2.1], 0, .ro)), (6, ([.ints .u8 x.2.2.2.2.2.2.2.2.2.1 x.2.2.2.2.2.2.2.2.2.2], 0, .ro))]
def f129v1.inA : VS → Option (List Int × ByteArray × Nat × Nat × Nat × Nat × List Int × Nat × List Int × Nat × List Int)
  | ⟨[(0, .agg [.ints .u64 4 a0]), (1, .str a1), (2, .vw true 0 0 3 1)], [(0, ([.vw true 2 0 m0_0 3, .vw true 4 0 m0_1 5, .vw true 6 0 m0_2 7], 0, .ro)), (2, ([.ints .u8 m2_0 m2_1], 0, .ro)), (4, ([.ints .u8 m4_0 m4_1], 0, .ro)), (6, ([.ints .u8 m6_0 m6_1], 0, .ro))], 8⟩ => some (a0, a1, m0_0, m0_1, m0_2, m2_0, m2_1, m4_0, m4_1, m6_0, m6_1)
  | _ => none
def f129v1.o0 (y : List Int × Int × Nat × Nat × Nat × Nat × List Int × Nat × List Int × Nat × List Int) : VS := ⟨[(0, .tup [.agg [.ints .u64 4 y.1], .int .i64 y.2.1])], [(0, ([.vw true 2 0 y.2.2.1 3, .vw true 4 0 y.2.2.2.1 5, .vw true 6 0 y.2.2.2.2.1 7], 0, .ro)), (2, ([.ints .u8 y.2.2.2.2.2.1 y.2.2.2.2.2.2.1], 0, .ro)), (4, ([.ints .u8 y.2.2.2.2.2.2.2.1 y.2.2.2.2.2.2.2.2.1], 0, .ro)), (6, ([.ints .u8 y.2.2.2.2.2.2.2.2.2.1 y.2.2.2.2.2.2.2.2.2.2], 0, .ro))], 8⟩
def f129v1.des : ∀ α : Type, (List Int × Int × Nat × Nat × Nat × Nat × List Int × Nat × List Int × Nat × List Int) → (VS → Option α) → Option α := (dv1 f129v1.o0)
def f129v1.out : List Int × Int × Nat × Nat × Nat × Nat × List Int × Nat × List Int × Nat × List Int → VS := f129v1.o0
def f129v1.inR : VS → Option (List Int × Int × Nat × Nat × Nat × Nat × List Int × Nat × List Int × Nat × List Int)
  | ⟨[(0, .tup [.agg [.ints .u64 4 y_0], .int .i64 y_1])], [(0, ([.vw true 2 0 z0_0 3, .vw true 4 0 z0_1 5, .vw true 6 0 z0_2 7], 0, .ro)), (2, ([.ints .u8 z2_0 z2_1], 0, .ro)), (4, ([.ints .u8 z4_0 z4_1], 0, .ro)), (6, ([.ints .u8 z6_0 z6_1], 0, .ro))], 8⟩ => some (y_0, y_1, z0_0, z0_1, z0_2, z2_0, z2_1, z4_0, z4_1, z6_0, z6_1)
  | _ => none
noncomputable def f129v1.E (K : Nat) : Entry := genE 8 f129v1.inA (f129v1.F K) f129v1.des
theorem f129v1.eq (K : Nat) (x : List Int × ByteArray × Nat × Nat × Nat × Nat × List Int × Nat × List Int × Nat × List Int) : f129v1.F K x = xrun (getA tys) (tabSp (f129v1.tab K)) Try.f129.ntmps 8 (f129v1.lp K) 400 f129v1.c ⟨initL 0 (f129v1.av x), f129v1.bl x, 8⟩ (contF (getA tys) 8 Try.f129.results.toList f129v1.inR) := by kernel_rfl
theorem f129v1.ok (K : Nat) : EntryOK Try.prog 129 (f129v1.E K) :=
  gen_ok mix tys_ok (f129v1.tabOK K) Try.func129 (by kernel_rfl : Try.f129.body = some f129v1.c) (by kernel_rfl) (f129v1.loops K) (av := f129v1.av) (bl := f129v1.bl) (out := f129v1.out) (fuel := 400)
    (by intro s x h; unfold f129v1.inA at h; split at h <;> simp at h; subst h; rfl) (fun _ => Nat.le_of_ble_eq_true rfl)
    (by intro s y h; unfold f129v1.inR at h; split at h <;> simp at h <;> subst h <;> rfl) (fun _ _ _ => rfl) (f129v1.eq K)
end Go.Proofs

namespace Go.Proofs
open Go.VM
noncomputable def f118.c : Code := bodyOf Try.f118
def f118.lp (_ : Nat) : Nat → Option (Hint × Summ) := fun _ => none
noncomputable def f118.tab (K : Nat) : List (Nat × Entry) := [(128, (viewE [(0, .u8)] (f128.E K))), (129, (rowsE 2 .u8 (f129.E K)))]
theorem f118.tabOK (K : Nat) : SpecOK Try.prog (tabSp (f118.tab K)) := tab_ok ((tab_cons (view_ok (f128.ok K)) (tab_cons (rows_ok (f129.ok K)) tab_nil)))
theorem f118.loops (K : Nat) : LoopsOK Try.prog 42 1 (f118.lp K) f118.c := loops_ok (by
  have h : loopsIn (f118.lp K) f118.c = [] := by kernel_rfl
  rw [h]; simp)
def f118.T (K : Nat) (_a0_0 : List Int) (a0_1 : List Int) (_a0_2 : List Int) (a1 : ByteArray) (a2 : List Int) (m0 : List Int) : Option (List Int × List Int) :=
  (f128.F K (0, (List.take 4 (List.drop 0 m0)), 0, [])).bind fun y2 =>
  bif ((Nat.ble (0 + y2.1) y2.2.2.2.2.1 && (Nat.ble y2.1 y2.2.1)) && true) then
    (f129.F K (a0_1, a1, y2.1, 32, y2.1, (subI y2.2.2.2.2.2 0 y2.1), 32, (subI a2 0 32))).bind fun y3 =>
    some (y3.1, m0)
  else
    none
def f118.F (K : Nat) (x : List Int × List Int × List Int × ByteArray × List Int × List Int) : Option (List Int × List Int) := f118.T K x.1 x.2.1 x.2.2.1 x.2.2.2.1 x.2.2.2.2.1 x.2.2.2.2.2
def f118.av (x : List Int × List Int × List Int × ByteArray × List Int × List Int) : List VV := [.agg [.ints .u64 4 x.1, .ints .u64 4 x.2.1, .ints .u64 4 x.2.2.1], .str x.2.2.2.1, .agg [.ints .u8 32 x.2.2.2.2.1], .sl 0 0 1 1]
def f118.bl (x : List Int × List Int × List Int × ByteArray × List Int × List Int) : List (Nat × Blk) := [(0, ([.ints .u64 4 x.2.2.2.2.2], 24, .norm))]
def f118.inA : VS → Option (List Int × List Int × List Int × ByteArray × List Int × List Int)
  | ⟨[(0, .agg [.ints .u64 4 a0_0, .ints .u64 4 a0_1, .ints .u64 4 a0_2]), (1, .str a1), (2, .agg [.ints .u8 32 a2]), (3, .sl 0 0 1 1)], [(0, ([.ints .u64 4 m0], 24, .norm))], 1⟩ => some (a0_0, a0_1, a0_2, a1, a2, m0)
  | _ => none
def f118.o0 (y : List Int × List Int) : VS := ⟨[(0, .agg [.ints .u64 4 y.1])], [(0, ([.ints .u64 4 y.2], 24, .norm))], 1⟩
def f118.des : ∀ α : Type, (List Int × List Int) → (VS → Option α) → Option α := (dv1 f118.o0)
def f118.out : List Int × List Int → VS := f118.o0
def f118.inR : VS → Option (List Int × List Int)
  | ⟨[(0, .agg [.ints .u64 4 y])], [(0, ([.ints .u64 4 z0], 24, .norm))], 1⟩ => some (y, z0)
  | _ => none
noncomputable def f118.E (K : Nat) : Entry := genE 1 f118.inA (f118.F K) f118.des
theorem f118.eq (K : Nat) (x : List Int × List Int × List Int × ByteArray × List Int × List Int) : f118.F K x = xrun (getA tys) (tabSp (f118.tab K)) Try.f118.ntmps 1 (f118.lp K) 400 f118.c ⟨initL 0 (f118.av x), f118.bl x, 1⟩ (contF (getA tys) 1 Try.f118.results.toList f118.inR) := by kernel_rfl
theorem f118.ok (K : Nat) : EntryOK Try.prog 118 (f118.E K) :=
  gen_ok mix tys_ok (f118.tabOK K) Try.func118 (by kernel_rfl : Try.f118.body = some f118.c) (by kernel_rfl) (f118.loops K) (av := f118.av) (bl := f118.bl) (out := f118.out) (fuel := 400)
    (by intro s x h; unfold f118.inA at h; split at h <;> simp at h; subst h; rfl) (fun _ => Nat.le_of_ble_eq_true rfl)
    (by intro s y h; unfold f118.inR at h; split at h <;> simp at h <;> subst h <;> rfl) (fun _ _ _ => rfl) (f118.eq K)
end Go.Proofs

namespace Go.Proofs
open Go.VM
noncomputable def f118v1.c : Code := bodyOf Try.f118
def f118v1.lp (_ : Nat) : Nat → Option (Hint × Summ) := fun _ => none
noncomputable def f118v1.tab (K : Nat) : List (Nat × Entry) := [(128, (viewE [(0, .u8)] (f128.E K))), (129, (rowsE 2 .u8 (f129v1.E K)))]
theorem f118v1.tabOK (K : Nat) : SpecOK Try.prog (tabSp (f118v1.tab K)) := tab_ok ((tab_cons (view_ok (f128.ok K)) (tab_cons (rows_ok (f129v1.ok K)) tab_nil)))
theorem f118v1.loops (K : Nat) : LoopsOK Try.prog 42 1 (f118v1.lp K) f118v1.c := loops_ok (by
  have h : loopsIn (f118v1.lp K) f118v1.c = [] := by kernel_rfl
  rw [h]; simp)
def f118v1.T (K : Nat) (_a0_0 : List Int) (a0_1 : List Int) (_a0_2 : List Int) (a1 : ByteArray) (a2 : List Int) (m0 : List Int) : Option (List Int × List Int) :=
  (f128.F K (0, (List.take 4 (List.drop 0 m0)), 0, [])).bind fun y2 =>
  (f128.F K (0, (List.take 4 (List.drop 4 m0)), 0, [])).bind fun y4 =>
  bif ((Nat.ble (0 + y2.1) y2.2.2.2.2.1 && (Nat.ble y2.1 y2.2.1)) && ((Nat.ble (0 + y4.1) y4.2.2.2.2.1 && (Nat.ble y4.1 y4.2.1)) && true)) then
    (f129v1.F K (a0_1, a1, y2.1, y4.1, 32, y2.1, (subI y2.2.2.2.2.2 0 y2.1), y4.1, (subI y4.2.2.2.2.2 0 y4.1), 32, (subI a2 0 32))).bind fun y5 =>
    some (y5.1, m0)
  else
    none
def f118v1.F (K : Nat) (x : List Int × List Int × List Int × ByteArray × List Int × List Int) : Option (List Int × List Int) := f118v1.T K x.1 x.2.1 x.2.2.1 x.2.2.2.1 x.2.2.2.2.1 x.2.2.2.2.2
def f118v1.av (x : List Int × List Int × List Int × ByteArray × List Int × List Int) : List VV := [.agg [.ints .u64 4 x.1, .ints .u64 4 x.2.1, .ints .u64 4 x.2.2.1], .str x.2.2.2.1, .agg [.ints .u8 32 x.2.2.2.2.1], .sl 0 0 2 2]
def f118v1.bl (x : List Int × List Int × List Int × ByteArray × List Int × List Int) : List (Nat × Blk) := [(0, ([.ints .u64 8 x.2.2.2.2.2], 24, .norm))]
def f118v1.inA : VS → Option (List Int × List Int × List Int × ByteArray × List Int × List Int)
  | ⟨[(0, .agg [.ints .u64 4 a0_0, .ints .u64 4 a0_1, .ints .u64 4 a0_2]), (1, .str a1), (2, .agg [.ints .u8 32 a2]), (3, .sl 0 0 2 2)], [(0, ([.ints .u64 8 m0], 24, .norm))], 1⟩ => some (a0_0, a0_1, a0_2, a1, a2, m0)
  | _ => none
def f118v1.o0 (y : List Int × List Int) : VS := ⟨[(0, .agg [.ints .u64 4 y.1])], [(0, ([.ints .u64 8 y.2], 24, .norm))], 1⟩
def f118v1.des : ∀ α : Type, (List Int × List Int) → (VS → Option α) → Option α := (dv1 f118v1.o0)
def f118v1.out : List Int × List Int → VS := f118v1.o0
def f118v1.inR : VS → Option (List Int × List Int)
  | ⟨[(0, .agg [.ints .u64 4 y])], [(0, ([.ints .u64 8 z0], 24, .norm))], 1⟩ => some (y, z0)
  | _ => none
noncomputable def f118v1.E (K : Nat) : Entry := genE 1 f118v1.inA (f118v1.F K) f118v1.des
theorem f118v1.eq (K : Nat) (x : List Int × List Int × List Int × ByteArray × List Int × List Int) : f118v1.F K x = xrun (getA tys) (tabSp (f118v1.tab K)) Try.f118.ntmps 1 (f118v1.lp K) 400 f118v1.c ⟨initL 0 (f118v1.av x), f118v1.bl x, 1⟩ (contF (getA tys) 1 Try.f118.results.toList f118v1.inR) := by kernel_rfl
theorem f118v1.ok (K : Nat) : EntryOK Try.prog 118 (f118v1.E K) :=
  gen_ok mix tys_ok (f118v1.tabOK K) Try.func118 (by kernel_rfl : Try.f118.body = some f118v1.c) (by kernel_rfl) (f118v1.loops K) (av := f118v1.av) (bl := f118v1.bl) (out := f118v1.out) (fuel := 400)
    (by intro s x h; unfold f118v1.inA at h; split at h <;> simp at h; subst h; rfl) (fun _ => Nat.le_of_ble_eq_true rfl)
    (by intro s y h; unfold f118v1.inR at h; split at h <;> simp at h <;> subst h <;> rfl) (fun _ _ _ => rfl) (f118v1.eq K)
end Go.Proofs

namespace Go.Proofs
open Go.VM
noncomputable def f126v1.c : Code := bodyOf Try.f126
def f126v1.s0t (K : Nat) (rec : Int × Int × List Int × List Int → Option ((Bool × List Int × List Int) ⊕ (List Int × List Int))) (t7 : Int) (t8 : Int) (b0 : List Int) (b1 : List Int) : Option ((Bool × List Int × List Int) ⊕ (List Int × List Int)) :=
  bif (decide (t8 < t7)) then
    bif decide (0 ≤ t8 ∧ t8 < 2) then
      (f44.F K ((List.take 4 (List.drop ((Int.toNat t8) * 4) b0)), b1)).bind fun y4 =>
      bif (decide (y4 ≥ 0)) then
        some (.inl (false, b0, b1))
      else
        rec (t7, (IntKind.wrap .i64 (t8 + 1)), b0, b1)
    else
      none
  else
    some (.inr (b0, b1))
def f126v1.s0 (K : Nat) (rec : Int × Int × List Int × List Int → Option ((Bool × List Int × List Int) ⊕ (List Int × List Int))) (x : Int × Int × List Int × List Int) : Option ((Bool × List Int × List Int) ⊕ (List Int × List Int)) := f126v1.s0t K rec x.1 x.2.1 x.2.2.1 x.2.2.2
noncomputable def f126v1.s0.b : Code := (findLoop 0 f126v1.c).getD .skip
def f126v1.s0.h : Hint := { lv := [1, 6, 7, 8] }
def f126v1.s0.ho : Hint := { lv := [3] }
def f126v1.s0.shp (x : Int × Int × List Int × List Int) : VS := ⟨[(1, .ptr 1 0), (6, .sl 0 0 2 2), (7, .int .i64 x.1), (8, .int .i64 x.2.1)], [(0, ([.ints .u64 8 x.2.2.1], 24, .norm)), (1, ([.ints .u64 4 x.2.2.2], 24, .norm))], 2⟩
def f126v1.s0.inX : VS → Option (Int × Int × List Int × List Int)
  | ⟨[(1, .ptr 1 0), (6, .sl 0 0 2 2), (7, .int .i64 t7), (8, .int .i64 t8)], [(0, ([.ints .u64 8 b0], 24, .norm)), (1, ([.ints .u64 4 b1], 24, .norm))], 2⟩ => some (t7, t8, b0, b1)
  | _ => none
def f126v1.s0.o0 (y : Bool × List Int × List Int) : VS := ⟨[(3, .bool y.1)], [(0, ([.ints .u64 8 y.2.1], 24, .norm)), (1, ([.ints .u64 4 y.2.2], 24, .norm))], 2⟩
def f126v1.s0.o1 (y : List Int × List Int) : VS := ⟨[], [(0, ([.ints .u64 8 y.1], 24, .norm)), (1, ([.ints .u64 4 y.2], 24, .norm))], 2⟩
def f126v1.s0.des : ∀ α : Type, ((Bool × List Int × List Int) ⊕ (List Int × List Int)) → (Ex → VS → Option α) → Option α := (desA (des1 (.ret) f126v1.s0.o0) (des1 (.exit 0) f126v1.s0.o1))
def f126v1.s0.out : (Bool × List Int × List Int) ⊕ (List Int × List Int) → Ex × VS := (alt (fun y => (.ret, f126v1.s0.o0 y)) (fun y => (.exit 0, f126v1.s0.o1 y)))
theorem f126v1.s0.desOK : ∀ α y (k : Ex → VS → Option α), f126v1.s0.des α y k = k (f126v1.s0.out y).1 (f126v1.s0.out y).2 := (desA_ok (fun _ _ _ => rfl) (fun _ _ _ => rfl))
def f126v1.s0.inY : Ex → VS → Option ((Bool × List Int × List Int) ⊕ (List Int × List Int))
  | .ret, ⟨[(3, .bool t3)], [(0, ([.ints .u64 8 b0], 24, .norm)), (1, ([.ints .u64 4 b1], 24, .norm))], 2⟩ => some (.inl (t3, b0, b1))
  | .exit 0, ⟨[], [(0, ([.ints .u64 8 b0], 24, .norm)), (1, ([.ints .u64 4 b1], 24, .norm))], 2⟩ => some (.inr (b0, b1))
  | _, _ => none
def f126v1.lp (K : Nat) : Nat → Option (Hint × Summ) := tabLp [(0, f126v1.s0.h, summOf (iter (f126v1.s0 K) K) f126v1.s0.inX f126v1.s0.des)]
noncomputable def f126v1.tab (K : Nat) : List (Nat × Entry) := [(44, (f44.E K))]
theorem f126v1.tabOK (K : Nat) : SpecOK Try.prog (tabSp (f126v1.tab K)) := tab_ok ((tab_cons (f44.ok K) tab_nil))
theorem f126v1.s0.eq (K : Nat) (rec : Int × Int × List Int × List Int → Option ((Bool × List Int × List Int) ⊕ (List Int × List Int))) (x : Int × Int × List Int × List Int) : f126v1.s0 K rec x = roundL (getA tys) (tabSp (f126v1.tab K)) 17 2 (f126v1.lp K) 400 f126v1.s0.b f126v1.s0.h f126v1.s0.ho f126v1.s0.shp f126v1.s0.inX f126v1.s0.inY rec x := by kernel_rfl
theorem f126v1.s0.lok (K : Nat) : LoopsOK Try.prog 17 2 (f126v1.lp K) f126v1.s0.b := loops_ok (by
  have h : loopsIn (f126v1.lp K) f126v1.s0.b = [] := by kernel_rfl
  rw [h]; simp)
theorem f126v1.s0.ok (K : Nat) : SummOK Try.prog 17 2 (summOf (iter (f126v1.s0 K) K) f126v1.s0.inX f126v1.s0.des) f126v1.s0.b :=
  loop_ok mix tys_ok (f126v1.tabOK K) (h := f126v1.s0.h) (ho := f126v1.s0.ho) (shp := f126v1.s0.shp) (inX := f126v1.s0.inX) (des := f126v1.s0.des) (out := f126v1.s0.out) (inY := f126v1.s0.inY) (fuel := 400)
    (by intro st x h; unfold f126v1.s0.inX at h; split at h <;> simp at h; subst h; rfl)
    (by intro e st y h; unfold f126v1.s0.inY at h; split at h <;> simp at h <;> subst h <;> rfl)
    f126v1.s0.desOK (f126v1.s0.lok K) (f126v1.s0 K) (f126v1.s0.eq K) K
theorem f126v1.loops (K : Nat) : LoopsOK Try.prog 17 2 (f126v1.lp K) f126v1.c := loops_ok (by
  have h : loopsIn (f126v1.lp K) f126v1.c = [(0, f126v1.s0.b)] := by kernel_rfl
  rw [h]
  intro p hp
  simp only [List.mem_cons, List.not_mem_nil, or_false] at hp
  rcases hp with rfl
  · exact ⟨_, rfl, (f126v1.s0.ok K)⟩)
def f126v1.T (K : Nat) (m0 : List Int) (m1 : List Int) : Option (Bool × List Int × List Int) :=
  (iter (f126v1.s0 K) K (2, 0, m0, m1)).bind fun y7 =>
  alt (fun y8 =>
    some (y8.1, y8.2.1, y8.2.2)) (fun y9 =>
    some (true, y9.1, y9.2)) y7
def f126v1.F (K : Nat) (x : List Int × List Int) : Option (Bool × List Int × List Int) := f126v1.T K x.1 x.2
def f126v1.av (_x : List Int × List Int) : List VV := [.sl 0 0 2 2, .ptr 1 0]
def f126v1.bl (x : List Int × List Int) : List (Nat × Blk) := [(0, ([.ints .u64 8 x.1], 24, .norm)), (1, ([.ints .u64 4 x.2], 24, .norm))]
def f126v1.inA : VS → Option (List Int × List Int)
  | ⟨[(0, .sl 0 0 2 2), (1, .ptr 1 0)], [(0, ([.ints .u64 8 m0], 24, .norm)), (1, ([.ints .u64 4 m1], 24, .norm))], 2⟩ => some (m0, m1)
  | _ => none
def f126v1.o0 (y : Bool × List Int × List Int) : VS := ⟨[(0, .bool y.1)], [(0, ([.ints .u64 8 y.2.1], 24, .norm)), (1, ([.ints .u64 4 y.2.2], 24, .norm))], 2⟩
def f126v1.des : ∀ α : Type, (Bool × List Int × List Int) → (VS → Option α) → Option α := (dv1 f126v1.o0)
def f126v1.out : Bool × List Int × List Int → VS := f126v1.o0
def f126v1.inR : VS → Option (Bool × List Int × List Int)
  | ⟨[(0, .bool y)], [(0, ([.ints .u64 8 z0], 24, .norm)), (1, ([.ints .u64 4 z1], 24, .norm))], 2⟩ => some (y, z0, z1)
  | _ => none
noncomputable def f126v1.E (K : Nat) : Entry := genE 2 f126v1.inA (f126v1.F K) f126v1.des
theorem f126v1.eq (K : Nat) (x : List Int × List Int) : f126v1.F K x = xrun (getA tys) (tabSp (f126v1.tab K)) Try.f126.ntmps 2 (f126v1.lp K) 400 f126v1.c ⟨initL 0 (f126v1.av x), f126v1.bl x, 2⟩ (contF (getA tys) 2 Try.f126.results.toList f126v1.inR) := by kernel_rfl
theorem f126v1.ok (K : Nat) : EntryOK Try.prog 126 (f126v1.E K) :=
  gen_ok mix tys_ok (f126v1.tabOK K) Try.func126 (by kernel_rfl : Try.f126.body = some f126v1.c) (by kernel_rfl) (f126v1.loops K) (av := f126v1.av) (bl := f126v1.bl) (out := f126v1.out) (fuel := 400)
    (by intro s x h; unfold f126v1.inA at h; split at h <;> simp at h; subst h; rfl) (fun _ => Nat.le_of_ble_eq_true rfl)
    (by intro s y h; unfold f126v1.inR at h; split at h <;> simp at h <;> subst h <;> rfl) (fun _ _ _ => rfl) (f126v1.eq K)
end Go.Proofs

namespace Go.Proofs
open Go.VM
noncomputable def f90.c : Code := bodyOf Try.f90
def f90.k0 : ByteArray := ByteArray.mk #[100, 114, 97, 119]
def f90.k1 : ByteArray := ByteArray.mk #[115, 105, 103, 110]
def f90.lp (_ : Nat) : Nat → Option (Hint × Summ) := fun _ => none
noncomputable def f90.tab (K : Nat) : List (Nat × Entry) := [(77, (f77.E K)), (118, (orF (fitE 1 f118.inA) (f118.E K) (f118v1.E K))), (46, (f46.E K)), (80, (f80.E K)), (63, (f63.E K)), (61, (f61.E K))]
theorem f90.tabOK (K : Nat) : SpecOK Try.prog (tabSp (f90.tab K)) := tab_ok ((tab_cons (f77.ok K) (tab_cons (orF_ok (f118.ok K) (f118v1.ok K)) (tab_cons (f46.ok K) (tab_cons (f80.ok K) (tab_cons (f63.ok K) (tab_cons (f61.ok K) tab_nil)))))))
theorem f90.loops (K : Nat) : LoopsOK Try.prog 70 0 (f90.lp K) f90.c := loops_ok (by
  have h : loopsIn (f90.lp K) f90.c = [] := by kernel_rfl
  rw [h]; simp)
def f90.T (K : Nat) (a0_0 : List Int) (a0_1 : List Int) (a0_2 : List Int) (a1 : List Int) (a2 : List Int) : Option (List Int × List Int × Int) :=
  (f77.F K (a0_0, a0_1, a0_2, a1)).bind fun y1 =>
  bif (y1.2 != 0) then
    some ([0, 0, 0, 0], [0, 0, 0, 0], y1.2)
  else
    (f118.F K (a0_0, a0_1, a0_2, f90.k0, a2, a1)).bind fun y2 =>
    (f46.F K 0).bind fun y3 =>
    bif (eqL 4 y2.1 y3 && true) then
      (f46.F K 1).bind fun y5 =>
      (f80.F K (a0_0, a0_1, a0_2, a0_2, y5)).bind fun y6 =>
      (f118v1.F K (a0_0, a0_1, a0_2, f90.k1, a2, (spl (spl [] 0 4 y1.1) 4 4 y6.1))).bind fun y8 =>
      (f63.F K (a1, y8.1, a0_1)).bind fun y9 =>
      (f61.F K (y5, y9.1, a0_1)).bind fun y10 =>
      some (y8.1, y10.1, 0)
    else
      (f80.F K (a0_0, a0_1, a0_2, a0_2, y2.1)).bind fun y11 =>
      (f118v1.F K (a0_0, a0_1, a0_2, f90.k1, a2, (spl (spl [] 0 4 y1.1) 4 4 y11.1))).bind fun y13 =>
      (f63.F K (a1, y13.1, a0_1)).bind fun y14 =>
      (f61.F K (y2.1, y14.1, a0_1)).bind fun y15 =>
      some (y13.1, y15.1, 0)
def f90.F (K : Nat) (x : List Int × List Int × List Int × List Int × List Int) : Option (List Int × List Int × Int) := f90.T K x.1 x.2.1 x.2.2.1 x.2.2.2.1 x.2.2.2.2
def f90.av (x : List Int × List Int × List Int × List Int × List Int) : List VV := [.agg [.ints .u64 4 x.1, .ints .u64 4 x.2.1, .ints .u64 4 x.2.2.1], .agg [.ints .u64 4 x.2.2.2.1], .agg [.ints .u8 32 x.2.2.2.2]]
def f90.bl (_x : List Int × List Int × List Int × List Int × List Int) : List (Nat × Blk) := []
def f90.inA : VS → Option (List Int × List Int × List Int × List Int × List Int)
  | ⟨[(0, .agg [.ints .u64 4 a0_0, .ints .u64 4 a0_1, .ints .u64 4 a0_2]), (1, .agg [.ints .u64 4 a1]), (2, .agg [.ints .u8 32 a2])], [], 0⟩ => some (a0_0, a0_1, a0_2, a1, a2)
  | _ => none
def f90.o0 (y : List Int × List Int × Int) : VS := ⟨[(0, .tup [.agg [.ints .u64 4 y.1, .ints .u64 4 y.2.1], .int .i64 y.2.2])], [], 0⟩
def f90.des : ∀ α : Type, (List Int × List Int × Int) → (VS → Option α) → Option α := (dv1 f90.o0)
def f90.out : List Int × List Int × Int → VS := f90.o0
def f90.inR : VS → Option (List Int × List Int × Int)
  | ⟨[(0, .tup [.agg [.ints .u64 4 y_0, .ints .u64 4 y_1], .int .i64 y_2])], [], 0⟩ => some (y_0, y_1, y_2)
  | _ => none
noncomputable def f90.E (K : Nat) : Entry := genE 0 f90.inA (f90.F K) f90.des
theorem f90.eq (K : Nat) (x : List Int × List Int × List Int × List Int × List Int) : f90.F K x = xrun (getA tys) (tabSp (f90.tab K)) Try.f90.ntmps 0 (f90.lp K) 400 f90.c ⟨initL 0 (f90.av x), f90.bl x, 0⟩ (contF (getA tys) 0 Try.f90.results.toList f90.inR) := by kernel_rfl
theorem f90.ok (K : Nat) : EntryOK Try.prog 90 (f90.E K) :=
  gen_ok mix tys_ok (f90.tabOK K) Try.func90 (by kernel_rfl : Try.f90.body = some f90.c) (by kernel_rfl) (f90.loops K) (av := f90.av) (bl := f90.bl) (out := f90.out) (fuel := 400)
    (by intro s x h; unfold f90.inA at h; split at h <;> simp at h; subst h; rfl) (fun _ => Nat.le_of_ble_eq_true rfl)
    (by intro s y h; unfold f90.inR at h; split at h <;> simp at h <;> subst h <;> rfl) (fun _ _ _ => rfl) (f90.eq K)
end Go.Proofs

namespace Go.Proofs
open Go.VM
noncomputable def f91.c : Code := bodyOf Try.f91
def f91.k0 : ByteArray := ByteArray.mk #[115, 105, 103, 110]
def f91.lp (_ : Nat) : Nat → Option (Hint × Summ) := fun _ => none
noncomputable def f91.tab (K : Nat) : List (Nat × Entry) := [(85, (f85.E K)), (87, (f87.E K)), (46, (f46.E K)), (110, (f110.E K)), (126, (f126v1.E K)), (34, (f34.E K)), (80, (f80.E K)), (79, (f79.E K)), (118, (f118v1.E K))]
theorem f91.tabOK (K : Nat) : SpecOK Try.prog (tabSp (f91.tab K)) := tab_ok ((tab_cons (f85.ok K) (tab_cons (f87.ok K) (tab_cons (f46.ok K) (tab_cons (f110.ok K) (tab_cons (f126v1.ok K) (tab_cons (f34.ok K) (tab_cons (f80.ok K) (tab_cons (f79.ok K) (tab_cons (f118v1.ok K) tab_nil))))))))))
theorem f91.loops (K : Nat) : LoopsOK Try.prog 83 0 (f91.lp K) f91.c := loops_ok (by
  have h : loopsIn (f91.lp K) f91.c = [] := by kernel_rfl
  rw [h]; simp)
def f91.T (K : Nat) (a0_0 : List Int) (a0_1 : List Int) (a0_2 : List Int) (a1 : List Int) (a2 : List Int) (a3_0 : List Int) (a3_1 : List Int) : Option (Bool) :=
  (f85.F K (a0_0, a0_1, a0_2)).bind fun y1 =>
  bif !y1 then
    some false
  else
    (f87.F K (a0_0, a0_1, a0_2, a1)).bind fun y2 =>
    bif !y2 then
      some false
    else
      (f46.F K 1).bind fun y3 =>
      bif (eqL 4 a1 y3 && true) then
        some false
      else
        (f110.F K a0_1).bind fun y5 =>
        (f126v1.F K ((spl (spl [] 0 4 a3_0) 4 4 a3_1), y5)).bind fun y7 =>
        bif !y7.1 then
          some false
        else
          (f34.F K (a0_1, a3_0)).bind fun y8 =>
          (f80.F K (a0_0, a0_1, a0_2, a0_2, a3_1)).bind fun y9 =>
          (f80.F K (a0_0, a0_1, a0_2, a1, y8.1)).bind fun y10 =>
          (f79.F K (a0_0, a0_1, a0_2, y9.1, y10.1)).bind fun y11 =>
          (f118v1.F K (a0_0, a0_1, a0_2, f91.k0, a2, (spl (spl [] 0 4 a1) 4 4 y11.1))).bind fun y13 =>
          some (eqL 4 y13.1 a3_0 && true)
def f91.F (K : Nat) (x : List Int × List Int × List Int × List Int × List Int × List Int × List Int) : Option (Bool) := f91.T K x.1 x.2.1 x.2.2.1 x.2.2.2.1 x.2.2.2.2.1 x.2.2.2.2.2.1 x.2.2.2.2.2.2
def f91.av (x : List Int × List Int × List Int × List Int × List Int × List Int × List Int) : List VV := [.agg [.ints .u64 4 x.1, .ints .u64 4 x.2.1, .ints .u64 4 x.2.2.1], .agg [.ints .u64 4 x.2.2.2.1], .agg [.ints .u8 32 x.2.2.2.2.1], .agg [.ints .u64 4 x.2.2.2.2.2.1, .ints .u64 4 x.2.2.2.2.2.2]]
def f91.bl (_x : List Int × List Int × List Int × List Int × List Int × List Int × List Int) : List (Nat × Blk) := []
def f91.inA : VS → Option (List Int × List Int × List Int × List Int × List Int × List Int × List Int)
  | ⟨[(0, .agg [.ints .u64 4 a0_0, .ints .u64 4 a0_1, .ints .u64 4 a0_2]), (1, .agg [.ints .u64 4 a1]), (2, .agg [.ints .u8 32 a2]), (3, .agg [.ints .u64 4 a3_0, .ints .u64 4 a3_1])], [], 0⟩ => some (a0_0, a0_1, a0_2, a1, a2, a3_0, a3_1)
  | _ => none
def f91.o0 (y : Bool) : VS := ⟨[(0, .bool y)], [], 0⟩
def f91.des : ∀ α : Type, Bool → (VS → Option α) → Option α := (dv1 f91.o0)
def f91.out : Bool → VS := f91.o0
def f91.inR : VS → Option (Bool)
  | ⟨[(0, .bool y)], [], 0⟩ => some y
  | _ => none
noncomputable def f91.E (K : Nat) : Entry := genE 0 f91.inA (f91.F K) f91.des
theorem f91.eq (K : Nat) (x : List Int × List Int × List Int × List Int × List Int × List Int × List Int) : f91.F K x = xrun (getA tys) (tabSp (f91.tab K)) Try.f91.ntmps 0 (f91.lp K) 400 f91.c ⟨initL 0 (f91.av x), f91.bl x, 0⟩ (contF (getA tys) 0 Try.f91.results.toList f91.inR) := by kernel_rfl
theorem f91.ok (K : Nat) : EntryOK Try.prog 91 (f91.E K) :=
  gen_ok mix tys_ok (f91.tabOK K) Try.func91 (by kernel_rfl : Try.f91.body = some f91.c) (by kernel_rfl) (f91.loops K) (av := f91.av) (bl := f91.bl) (out := f91.out) (fuel := 400)
    (by intro s x h; unfold f91.inA at h; split at h <;> simp at h; subst h; rfl) (fun _ => Nat.le_of_ble_eq_true rfl)
    (by intro s y h; unfold f91.inR at h; split at h <;> simp at h <;> subst h <;> rfl) (fun _ _ _ => rfl) (f91.eq K)
end Go.Proofs

namespace Go.Proofs
open Go.VM
noncomputable def f30.c : Code := bodyOf Try.f30
def f30.lp (_ : Nat) : Nat → Option (Hint × Summ) := fun _ => none
noncomputable def f30.tab (K : Nat) : List (Nat × Entry) := [(77, (f77.E K)), (90, (f90.E K)), (78, (f78.E K)), (46, (f46.E K)), (91, (f91.E K))]
theorem f30.tabOK (K : Nat) : SpecOK Try.prog (tabSp (f30.tab K)) := tab_ok ((tab_cons (f77.ok K) (tab_cons (f90.ok K) (tab_cons (f78.ok K) (tab_cons (f46.ok K) (tab_cons (f91.ok K) tab_nil))))))
theorem f30.loops (K : Nat) : LoopsOK Try.prog 76 0 (f30.lp K) f30.c := loops_ok (by
  have h : loopsIn (f30.lp K) f30.c = [] := by kernel_rfl
  rw [h]; simp)
def f30.T (K : Nat) (a0_0 : List Int) (a0_1 : List Int) (a0_2 : List Int) (a1 : List Int) (a2 : List Int) : Option (Bool) :=
  (f77.F K (a0_0, a0_1, a0_2, a1)).bind fun y1 =>
  (f90.F K (a0_0, a0_1, a0_2, a1, a2)).bind fun y2 =>
  (f90.F K (a0_0, a0_1, a0_2, a1, a2)).bind fun y3 =>
  bif (y1.2 != y2.2.2) then
    some false
  else
    bif (y2.2.2 != y3.2.2) then
      some false
    else
      bif (!(eqL 4 y2.1 y3.1 && (eqL 4 y2.2.1 y3.2.1 && true))) then
        some false
      else
        bif (y1.2 != 0) then
          bif (y1.2 == 1) then
            bif (eqL 4 y2.1 [0, 0, 0, 0] && (eqL 4 y2.2.1 [0, 0, 0, 0] && true)) then
              (f78.F K ()).bind fun y8 =>
              some y8
            else
              some false
          else
            some false
        else
          bif (eqL 4 a0_1 [0, 0, 0, 0] && true) then
            (f78.F K ()).bind fun y10 =>
            some y10
          else
            (f46.F K 1).bind fun y11 =>
            bif (eqL 4 y1.1 y11 && true) then
              (f78.F K ()).bind fun y13 =>
              some y13
            else
              (f91.F K (a0_0, a0_1, a0_2, y1.1, a2, y2.1, y2.2.1)).bind fun y14 =>
              bif y14 then
                (f78.F K ()).bind fun y15 =>
                some y15
              else
                some false
def f30.F (K : Nat) (x : List Int × List Int × List Int × List Int × List Int) : Option (Bool) := f30.T K x.1 x.2.1 x.2.2.1 x.2.2.2.1 x.2.2.2.2
def f30.av (x : List Int × List Int × List Int × List Int × List Int) : List VV := [.agg [.ints .u64 4 x.1, .ints .u64 4 x.2.1, .ints .u64 4 x.2.2.1], .agg [.ints .u64 4 x.2.2.2.1], .agg [.ints .u8 32 x.2.2.2.2]]
def f30.bl (_x : List Int × List Int × List Int × List Int × List Int) : List (Nat × Blk) := []
def f30.inA : VS → Option (List Int × List Int × List Int × List Int × List Int)
  | ⟨[(0, .agg [.ints .u64 4 a0_0, .ints .u64 4 a0_1, .ints .u64 4 a0_2]), (1, .agg [.ints .u64 4 a1]), (2, .agg [.ints .u8 32 a2])], [], 0⟩ => some (a0_0, a0_1, a0_2, a1, a2)
  | _ => none
def f30.o0 (y : Bool) : VS := ⟨[(0, .bool y)], [], 0⟩
def f30.des : ∀ α : Type, Bool → (VS → Option α) → Option α := (dv1 f30.o0)
def f30.out : Bool → VS := f30.o0
def f30.inR : VS → Option (Bool)
  | ⟨[(0, .bool y)], [], 0⟩ => some y
  | _ => none
noncomputable def f30.E (K : Nat) : Entry := genE 0 f30.inA (f30.F K) f30.des
theorem f30.eq (K : Nat) (x : List Int × List Int × List Int × List Int × List Int) : f30.F K x = xrun (getA tys) (tabSp (f30.tab K)) Try.f30.ntmps 0 (f30.lp K) 400 f30.c ⟨initL 0 (f30.av x), f30.bl x, 0⟩ (contF (getA tys) 0 Try.f30.results.toList f30.inR) := by kernel_rfl
theorem f30.ok (K : Nat) : EntryOK Try.prog 30 (f30.E K) :=
  gen_ok mix tys_ok (f30.tabOK K) Try.func30 (by kernel_rfl : Try.f30.body = some f30.c) (by kernel_rfl) (f30.loops K) (av := f30.av) (bl := f30.bl) (out := f30.out) (fuel := 400)
    (by intro s x h; unfold f30.inA at h; split at h <;> simp at h; subst h; rfl) (fun _ => Nat.le_of_ble_eq_true rfl)
    (by intro s y h; unfold f30.inR at h; split at h <;> simp at h <;> subst h <;> rfl) (fun _ _ _ => rfl) (f30.eq K)
end Go.Proofs

namespace Go.Proofs
open Go.VM
end Go.Proofs
