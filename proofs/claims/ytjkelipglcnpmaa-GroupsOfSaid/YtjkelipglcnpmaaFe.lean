/- Go functions: for each a Lean function with the same answers, and the proof that the call comes to them, with no condition. -/
import Derived.Test.YtjkelipglcnpmaaFl
import Derived.Test.YtjkelipglcnpmaaFd
namespace Go.Proofs
open Go.VM
/-! ### math/bits.Mul64 -/
noncomputable def f125.c : Code := bodyOf Try.f125
def f125.lp (_ : Nat) : Nat → Option (Hint × Summ) := fun _ => none
noncomputable def f125.tab (_K : Nat) : List (Nat × Entry) := []
theorem f125.tabOK (K : Nat) : SpecOK Try.prog (tabSp (f125.tab K)) := tab_ok ( tab_nil)
theorem f125.loops (K : Nat) : LoopsOK Try.prog 51 0 (f125.lp K) f125.c := loops_ok (by
  have h : loopsIn (f125.lp K) f125.c = [] := by kernel_rfl
  rw [h]; simp)
def f125.T (_K : Nat) (a0 : Int) (a1 : Int) : Option (Int × Int) :=
  let v1 := bits .and .u64 a0 4294967295
  let v2 := Int.fdiv a0 (2 ^ 32)
  let v3 := bits .and .u64 a1 4294967295
  let v4 := Int.fdiv a1 (2 ^ 32)
  let v8 := IntKind.wrap .u64 ((IntKind.wrap .u64 (v2 * v3)) + (Int.fdiv (IntKind.wrap .u64 (v1 * v3)) (2 ^ 32)))
  some ((IntKind.wrap .u64 ((IntKind.wrap .u64 ((IntKind.wrap .u64 (v2 * v4)) + (Int.fdiv v8 (2 ^ 32)))) + (Int.fdiv (IntKind.wrap .u64 ((bits .and .u64 v8 4294967295) + (IntKind.wrap .u64 (v1 * v4)))) (2 ^ 32)))), (IntKind.wrap .u64 (a0 * a1)))
def f125.F (K : Nat) (x : Int × Int) : Option (Int × Int) := f125.T K x.1 x.2
def f125.av (x : Int × Int) : List VV := [.int .u64 x.1, .int .u64 x.2]
def f125.bl (_x : Int × Int) : List (Nat × Blk) := []
def f125.inA : VS → Option (Int × Int)
  | ⟨[(0, .int .u64 a0), (1, .int .u64 a1)], [], 0⟩ => some (a0, a1)
  | _ => none
def f125.o0 (y : Int × Int) : VS := ⟨[(0, .tup [.int .u64 y.1, .int .u64 y.2])], [], 0⟩
def f125.des : ∀ α : Type, (Int × Int) → (VS → Option α) → Option α := (dv1 f125.o0)
def f125.out : Int × Int → VS := f125.o0
def f125.inR : VS → Option (Int × Int)
  | ⟨[(0, .tup [.int .u64 y_0, .int .u64 y_1])], [], 0⟩ => some (y_0, y_1)
  | _ => none
noncomputable def f125.E (K : Nat) : Entry := genE 0 f125.inA (f125.F K) f125.des
theorem f125.eq (K : Nat) (x : Int × Int) : f125.F K x = xrun (getA tys) (tabSp (f125.tab K)) Try.f125.ntmps 0 (f125.lp K) 400 f125.c ⟨initL 0 (f125.av x), f125.bl x, 0⟩ (contF (getA tys) 0 Try.f125.results.toList f125.inR) := by kernel_rfl
theorem f125.ok (K : Nat) : EntryOK Try.prog 125 (f125.E K) :=
  gen_ok mix tys_ok (f125.tabOK K) Try.func125 (by kernel_rfl : Try.f125.body = some f125.c) (by kernel_rfl) (f125.loops K) (av := f125.av) (bl := f125.bl) (out := f125.out) (fuel := 400)
    (by intro s x h; unfold f125.inA at h; split at h <;> simp at h; subst h; rfl) (fun _ => Nat.le_of_ble_eq_true rfl)
    (by intro s y h; unfold f125.inR at h; split at h <;> simp at h <;> subst h <;> rfl) (fun _ _ _ => rfl) (f125.eq K)
end Go.Proofs

namespace Go.Proofs
open Go.VM
/-! ### math/bits.Rem64 -/
noncomputable def f135.c : Code := bodyOf Try.f135
def f135.lp (_ : Nat) : Nat → Option (Hint × Summ) := fun _ => none
noncomputable def f135.tab (K : Nat) : List (Nat × Entry) := [(100, (f100.E K))]
theorem f135.tabOK (K : Nat) : SpecOK Try.prog (tabSp (f135.tab K)) := tab_ok ((tab_cons (f100.ok K) tab_nil))
theorem f135.loops (K : Nat) : LoopsOK Try.prog 19 0 (f135.lp K) f135.c := loops_ok (by
  have h : loopsIn (f135.lp K) f135.c = [] := by kernel_rfl
  rw [h]; simp)
def f135.T (K : Nat) (a0 : Int) (a1 : Int) (a2 : Int) : Option (Int) :=
  bif decide (a2 ≠ 0) then
    (f100.F K ((Int.tmod a0 a2), a1, a2)).bind fun y2 =>
    some y2.2
  else
    none
def f135.F (K : Nat) (x : Int × Int × Int) : Option (Int) := f135.T K x.1 x.2.1 x.2.2
def f135.av (x : Int × Int × Int) : List VV := [.int .u64 x.1, .int .u64 x.2.1, .int .u64 x.2.2]
def f135.bl (_x : Int × Int × Int) : List (Nat × Blk) := []
def f135.inA : VS → Option (Int × Int × Int)
  | ⟨[(0, .int .u64 a0), (1, .int .u64 a1), (2, .int .u64 a2)], [], 0⟩ => some (a0, a1, a2)
  | _ => none
def f135.o0 (y : Int) : VS := ⟨[(0, .int .u64 y)], [], 0⟩
def f135.des : ∀ α : Type, Int → (VS → Option α) → Option α := (dv1 f135.o0)
def f135.out : Int → VS := f135.o0
def f135.inR : VS → Option (Int)
  | ⟨[(0, .int .u64 y)], [], 0⟩ => some y
  | _ => none
noncomputable def f135.E (K : Nat) : Entry := genE 0 f135.inA (f135.F K) f135.des
theorem f135.eq (K : Nat) (x : Int × Int × Int) : f135.F K x = xrun (getA tys) (tabSp (f135.tab K)) Try.f135.ntmps 0 (f135.lp K) 400 f135.c ⟨initL 0 (f135.av x), f135.bl x, 0⟩ (contF (getA tys) 0 Try.f135.results.toList f135.inR) := by kernel_rfl
theorem f135.ok (K : Nat) : EntryOK Try.prog 135 (f135.E K) :=
  gen_ok mix tys_ok (f135.tabOK K) Try.func135 (by kernel_rfl : Try.f135.body = some f135.c) (by kernel_rfl) (f135.loops K) (av := f135.av) (bl := f135.bl) (out := f135.out) (fuel := 400)
    (by intro s x h; unfold f135.inA at h; split at h <;> simp at h; subst h; rfl) (fun _ => Nat.le_of_ble_eq_true rfl)
    (by intro s y h; unfold f135.inR at h; split at h <;> simp at h <;> subst h <;> rfl) (fun _ _ _ => rfl) (f135.eq K)
end Go.Proofs

namespace Go.Proofs
open Go.VM
/-! ### burrow/burrowlaw03.DividesWhole -/
noncomputable def f13.c : Code := bodyOf Try.f13
def f13.lp (_ : Nat) : Nat → Option (Hint × Summ) := fun _ => none
noncomputable def f13.tab (K : Nat) : List (Nat × Entry) := [(54, (f54.E K)), (59, (f59.E K)), (60, (f60.E K)), (52, (f52.E K)), (44, (f44.E K))]
theorem f13.tabOK (K : Nat) : SpecOK Try.prog (tabSp (f13.tab K)) := tab_ok ((tab_cons (f54.ok K) (tab_cons (f59.ok K) (tab_cons (f60.ok K) (tab_cons (f52.ok K) (tab_cons (f44.ok K) tab_nil))))))
theorem f13.loops (K : Nat) : LoopsOK Try.prog 86 0 (f13.lp K) f13.c := loops_ok (by
  have h : loopsIn (f13.lp K) f13.c = [] := by kernel_rfl
  rw [h]; simp)
def f13.T (K : Nat) (a0 : List Int) (a1 : List Int) (a2 : List Int) : Option (Bool) :=
  (f54.F K (a0, a1, a2)).bind fun y1 =>
  (f59.F K ()).bind fun y2 =>
  bif (eqL 4 a2 y2 && true) then
    bif (y1.2 == 1) then
      (f59.F K ()).bind fun y4 =>
      bif (eqL 4 y1.1 y4 && true) then
        (f60.F K ()).bind fun y6 =>
        some y6
      else
        some false
    else
      some false
  else
    (f52.F K (a0, a2)).bind fun y7 =>
    (f52.F K (a1, a2)).bind fun y8 =>
    (f54.F K (y7.2.1, y8.2.1, a2)).bind fun y9 =>
    (f60.F K ()).bind fun y10 =>
    bif y10 then
      bif (y1.2 == 0) then
        bif (y7.2.2 == 0) then
          bif (y8.2.2 == 0) then
            bif (y9.2 == 0) then
              bif (eqL 4 y1.1 y9.1 && true) then
                (f44.F K (y1.1, a2)).bind fun y14 =>
                some (decide (y14 < 0))
              else
                some false
            else
              some false
          else
            some false
        else
          some false
      else
        some false
    else
      some false
def f13.F (K : Nat) (x : List Int × List Int × List Int) : Option (Bool) := f13.T K x.1 x.2.1 x.2.2
def f13.av (x : List Int × List Int × List Int) : List VV := [.agg [.ints .u64 4 x.1], .agg [.ints .u64 4 x.2.1], .agg [.ints .u64 4 x.2.2]]
def f13.bl (_x : List Int × List Int × List Int) : List (Nat × Blk) := []
def f13.inA : VS → Option (List Int × List Int × List Int)
  | ⟨[(0, .agg [.ints .u64 4 a0]), (1, .agg [.ints .u64 4 a1]), (2, .agg [.ints .u64 4 a2])], [], 0⟩ => some (a0, a1, a2)
  | _ => none
def f13.o0 (y : Bool) : VS := ⟨[(0, .bool y)], [], 0⟩
def f13.des : ∀ α : Type, Bool → (VS → Option α) → Option α := (dv1 f13.o0)
def f13.out : Bool → VS := f13.o0
def f13.inR : VS → Option (Bool)
  | ⟨[(0, .bool y)], [], 0⟩ => some y
  | _ => none
noncomputable def f13.E (K : Nat) : Entry := genE 0 f13.inA (f13.F K) f13.des
theorem f13.eq (K : Nat) (x : List Int × List Int × List Int) : f13.F K x = xrun (getA tys) (tabSp (f13.tab K)) Try.f13.ntmps 0 (f13.lp K) 400 f13.c ⟨initL 0 (f13.av x), f13.bl x, 0⟩ (contF (getA tys) 0 Try.f13.results.toList f13.inR) := by kernel_rfl
theorem f13.ok (K : Nat) : EntryOK Try.prog 13 (f13.E K) :=
  gen_ok mix tys_ok (f13.tabOK K) Try.func13 (by kernel_rfl : Try.f13.body = some f13.c) (by kernel_rfl) (f13.loops K) (av := f13.av) (bl := f13.bl) (out := f13.out) (fuel := 400)
    (by intro s x h; unfold f13.inA at h; split at h <;> simp at h; subst h; rfl) (fun _ => Nat.le_of_ble_eq_true rfl)
    (by intro s y h; unfold f13.inR at h; split at h <;> simp at h <;> subst h <;> rfl) (fun _ _ _ => rfl) (f13.eq K)
end Go.Proofs

namespace Go.Proofs
open Go.VM
/-! ### burrow/burrowlaw03.DividesCuts -/
noncomputable def f14.c : Code := bodyOf Try.f14
def f14.lp (_ : Nat) : Nat → Option (Hint × Summ) := fun _ => none
noncomputable def f14.tab (K : Nat) : List (Nat × Entry) := [(58, (f58.E K)), (38, (f38.E K)), (54, (f54.E K)), (52, (f52.E K)), (60, (f60.E K)), (59, (f59.E K))]
theorem f14.tabOK (K : Nat) : SpecOK Try.prog (tabSp (f14.tab K)) := tab_ok ((tab_cons (f58.ok K) (tab_cons (f38.ok K) (tab_cons (f54.ok K) (tab_cons (f52.ok K) (tab_cons (f60.ok K) (tab_cons (f59.ok K) tab_nil)))))))
theorem f14.loops (K : Nat) : LoopsOK Try.prog 87 0 (f14.lp K) f14.c := loops_ok (by
  have h : loopsIn (f14.lp K) f14.c = [] := by kernel_rfl
  rw [h]; simp)
def f14.T (K : Nat) (a0 : List Int) (a1 : List Int) (a2 : Int) : Option (Bool) :=
  (f58.F K 1).bind fun y1 =>
  (f38.F K (y1, (IntKind.wrap .i64 a2))).bind fun y3 =>
  (f54.F K (a0, a1, y3)).bind fun y4 =>
  (f52.F K (a0, y3)).bind fun y5 =>
  (f38.F K (a0, (IntKind.wrap .i64 (256 - (IntKind.wrap .i64 a2))))).bind fun y8 =>
  (f38.F K (y8, (IntKind.wrap .i64 ((IntKind.wrap .i64 a2) - 256)))).bind fun y11 =>
  (f58.F K 1).bind fun y12 =>
  (f54.F K (a0, a1, y12)).bind fun y13 =>
  (f60.F K ()).bind fun y14 =>
  bif y14 then
    bif (y4.2 == 0) then
      bif (y5.2.2 == 0) then
        bif (eqL 4 y4.1 y11 && true) then
          bif (eqL 4 y5.2.1 y11 && true) then
            (f38.F K (a0, (IntKind.wrap .i64 (0 - (IntKind.wrap .i64 a2))))).bind fun y20 =>
            bif (eqL 4 y5.1 y20 && true) then
              (f59.F K ()).bind fun y22 =>
              bif (eqL 4 y13.1 y22 && true) then
                some (y13.2 == 0)
              else
                some false
            else
              some false
          else
            some false
        else
          some false
      else
        some false
    else
      some false
  else
    some false
def f14.F (K : Nat) (x : List Int × List Int × Int) : Option (Bool) := f14.T K x.1 x.2.1 x.2.2
def f14.av (x : List Int × List Int × Int) : List VV := [.agg [.ints .u64 4 x.1], .agg [.ints .u64 4 x.2.1], .int .u8 x.2.2]
def f14.bl (_x : List Int × List Int × Int) : List (Nat × Blk) := []
def f14.inA : VS → Option (List Int × List Int × Int)
  | ⟨[(0, .agg [.ints .u64 4 a0]), (1, .agg [.ints .u64 4 a1]), (2, .int .u8 a2)], [], 0⟩ => some (a0, a1, a2)
  | _ => none
def f14.o0 (y : Bool) : VS := ⟨[(0, .bool y)], [], 0⟩
def f14.des : ∀ α : Type, Bool → (VS → Option α) → Option α := (dv1 f14.o0)
def f14.out : Bool → VS := f14.o0
def f14.inR : VS → Option (Bool)
  | ⟨[(0, .bool y)], [], 0⟩ => some y
  | _ => none
noncomputable def f14.E (K : Nat) : Entry := genE 0 f14.inA (f14.F K) f14.des
theorem f14.eq (K : Nat) (x : List Int × List Int × Int) : f14.F K x = xrun (getA tys) (tabSp (f14.tab K)) Try.f14.ntmps 0 (f14.lp K) 400 f14.c ⟨initL 0 (f14.av x), f14.bl x, 0⟩ (contF (getA tys) 0 Try.f14.results.toList f14.inR) := by kernel_rfl
theorem f14.ok (K : Nat) : EntryOK Try.prog 14 (f14.E K) :=
  gen_ok mix tys_ok (f14.tabOK K) Try.func14 (by kernel_rfl : Try.f14.body = some f14.c) (by kernel_rfl) (f14.loops K) (av := f14.av) (bl := f14.bl) (out := f14.out) (fuel := 400)
    (by intro s x h; unfold f14.inA at h; split at h <;> simp at h; subst h; rfl) (fun _ => Nat.le_of_ble_eq_true rfl)
    (by intro s y h; unfold f14.inR at h; split at h <;> simp at h <;> subst h <;> rfl) (fun _ _ _ => rfl) (f14.eq K)
end Go.Proofs

namespace Go.Proofs
open Go.VM
/-! ### burrow/burrowlaw03.DividesShared -/
noncomputable def f15.c : Code := bodyOf Try.f15
def f15.lp (_ : Nat) : Nat → Option (Hint × Summ) := fun _ => none
noncomputable def f15.tab (K : Nat) : List (Nat × Entry) := [(56, (f56.E K)), (34, (f34.E K)), (59, (f59.E K)), (60, (f60.E K)), (58, (f58.E K)), (52, (f52.E K))]
theorem f15.tabOK (K : Nat) : SpecOK Try.prog (tabSp (f15.tab K)) := tab_ok ((tab_cons (f56.ok K) (tab_cons (f34.ok K) (tab_cons (f59.ok K) (tab_cons (f60.ok K) (tab_cons (f58.ok K) (tab_cons (f52.ok K) tab_nil)))))))
theorem f15.loops (K : Nat) : LoopsOK Try.prog 114 0 (f15.lp K) f15.c := loops_ok (by
  have h : loopsIn (f15.lp K) f15.c = [] := by kernel_rfl
  rw [h]; simp)
def f15.T (K : Nat) (a0 : List Int) (a1 : List Int) (a2 : Int) : Option (Bool) :=
  (f56.F K (a0, a1)).bind fun y1 =>
  (f34.F K (a0, a1)).bind fun y2 =>
  bif (y2.2 == 1) then
    (f34.F K (a1, a0)).bind fun y3 =>
    (f56.F K (y3.1, a1)).bind fun y4 =>
    bif (!(eqL 4 y1 y4 && true)) then
      some false
    else
      (f56.F K (y3.1, a0)).bind fun y6 =>
      bif (!(eqL 4 y1 y6 && true)) then
        some false
      else
        (f56.F K (a1, a0)).bind fun y8 =>
        bif (!(eqL 4 y1 y8 && true)) then
          some false
        else
          (f59.F K ()).bind fun y10 =>
          let v11 := (eqL 4 y1 y10 && true)
          (f59.F K ()).bind fun y12 =>
          bif (eqL 4 a0 y12 && true) then
            (f59.F K ()).bind fun y14 =>
            bif (!(v11 == (eqL 4 a1 y14 && true))) then
              some false
            else
              bif (a2 == 0) then
                (f60.F K ()).bind fun y17 =>
                some y17
              else
                (f58.F K (IntKind.wrap .u64 a2)).bind fun y19 =>
                (f52.F K (a0, y19)).bind fun y20 =>
                (f58.F K (IntKind.wrap .u64 a2)).bind fun y22 =>
                (f52.F K (a1, y22)).bind fun y23 =>
                (f58.F K (IntKind.wrap .u64 a2)).bind fun y25 =>
                (f52.F K (y1, y25)).bind fun y26 =>
                (f60.F K ()).bind fun y27 =>
                bif y27 then
                  (f59.F K ()).bind fun y28 =>
                  let v29 := (eqL 4 y26.2.1 y28 && true)
                  (f59.F K ()).bind fun y30 =>
                  bif (eqL 4 y20.2.1 y30 && true) then
                    (f59.F K ()).bind fun y32 =>
                    some (v29 == (eqL 4 y23.2.1 y32 && true))
                  else
                    some (v29 == false)
                else
                  some false
          else
            bif (!(v11 == false)) then
              some false
            else
              bif (a2 == 0) then
                (f60.F K ()).bind fun y37 =>
                some y37
              else
                (f58.F K (IntKind.wrap .u64 a2)).bind fun y39 =>
                (f52.F K (a0, y39)).bind fun y40 =>
                (f58.F K (IntKind.wrap .u64 a2)).bind fun y42 =>
                (f52.F K (a1, y42)).bind fun y43 =>
                (f58.F K (IntKind.wrap .u64 a2)).bind fun y45 =>
                (f52.F K (y1, y45)).bind fun y46 =>
                (f60.F K ()).bind fun y47 =>
                bif y47 then
                  (f59.F K ()).bind fun y48 =>
                  let v49 := (eqL 4 y46.2.1 y48 && true)
                  (f59.F K ()).bind fun y50 =>
                  bif (eqL 4 y40.2.1 y50 && true) then
                    (f59.F K ()).bind fun y52 =>
                    some (v49 == (eqL 4 y43.2.1 y52 && true))
                  else
                    some (v49 == false)
                else
                  some false
  else
    (f56.F K (y2.1, a1)).bind fun y56 =>
    bif (!(eqL 4 y1 y56 && true)) then
      some false
    else
      (f56.F K (y2.1, a0)).bind fun y58 =>
      bif (!(eqL 4 y1 y58 && true)) then
        some false
      else
        (f56.F K (a1, a0)).bind fun y60 =>
        bif (!(eqL 4 y1 y60 && true)) then
          some false
        else
          (f59.F K ()).bind fun y62 =>
          let v63 := (eqL 4 y1 y62 && true)
          (f59.F K ()).bind fun y64 =>
          bif (eqL 4 a0 y64 && true) then
            (f59.F K ()).bind fun y66 =>
            bif (!(v63 == (eqL 4 a1 y66 && true))) then
              some false
            else
              bif (a2 == 0) then
                (f60.F K ()).bind fun y69 =>
                some y69
              else
                (f58.F K (IntKind.wrap .u64 a2)).bind fun y71 =>
                (f52.F K (a0, y71)).bind fun y72 =>
                (f58.F K (IntKind.wrap .u64 a2)).bind fun y74 =>
                (f52.F K (a1, y74)).bind fun y75 =>
                (f58.F K (IntKind.wrap .u64 a2)).bind fun y77 =>
                (f52.F K (y1, y77)).bind fun y78 =>
                (f60.F K ()).bind fun y79 =>
                bif y79 then
                  (f59.F K ()).bind fun y80 =>
                  let v81 := (eqL 4 y78.2.1 y80 && true)
                  (f59.F K ()).bind fun y82 =>
                  bif (eqL 4 y72.2.1 y82 && true) then
                    (f59.F K ()).bind fun y84 =>
                    some (v81 == (eqL 4 y75.2.1 y84 && true))
                  else
                    some (v81 == false)
                else
                  some false
          else
            bif (!(v63 == false)) then
              some false
            else
              bif (a2 == 0) then
                (f60.F K ()).bind fun y89 =>
                some y89
              else
                (f58.F K (IntKind.wrap .u64 a2)).bind fun y91 =>
                (f52.F K (a0, y91)).bind fun y92 =>
                (f58.F K (IntKind.wrap .u64 a2)).bind fun y94 =>
                (f52.F K (a1, y94)).bind fun y95 =>
                (f58.F K (IntKind.wrap .u64 a2)).bind fun y97 =>
                (f52.F K (y1, y97)).bind fun y98 =>
                (f60.F K ()).bind fun y99 =>
                bif y99 then
                  (f59.F K ()).bind fun y100 =>
                  let v101 := (eqL 4 y98.2.1 y100 && true)
                  (f59.F K ()).bind fun y102 =>
                  bif (eqL 4 y92.2.1 y102 && true) then
                    (f59.F K ()).bind fun y104 =>
                    some (v101 == (eqL 4 y95.2.1 y104 && true))
                  else
                    some (v101 == false)
                else
                  some false
def f15.F (K : Nat) (x : List Int × List Int × Int) : Option (Bool) := f15.T K x.1 x.2.1 x.2.2
def f15.av (x : List Int × List Int × Int) : List VV := [.agg [.ints .u64 4 x.1], .agg [.ints .u64 4 x.2.1], .int .u32 x.2.2]
def f15.bl (_x : List Int × List Int × Int) : List (Nat × Blk) := []
def f15.inA : VS → Option (List Int × List Int × Int)
  | ⟨[(0, .agg [.ints .u64 4 a0]), (1, .agg [.ints .u64 4 a1]), (2, .int .u32 a2)], [], 0⟩ => some (a0, a1, a2)
  | _ => none
def f15.o0 (y : Bool) : VS := ⟨[(0, .bool y)], [], 0⟩
def f15.des : ∀ α : Type, Bool → (VS → Option α) → Option α := (dv1 f15.o0)
def f15.out : Bool → VS := f15.o0
def f15.inR : VS → Option (Bool)
  | ⟨[(0, .bool y)], [], 0⟩ => some y
  | _ => none
noncomputable def f15.E (K : Nat) : Entry := genE 0 f15.inA (f15.F K) f15.des
theorem f15.eq (K : Nat) (x : List Int × List Int × Int) : f15.F K x = xrun (getA tys) (tabSp (f15.tab K)) Try.f15.ntmps 0 (f15.lp K) 400 f15.c ⟨initL 0 (f15.av x), f15.bl x, 0⟩ (contF (getA tys) 0 Try.f15.results.toList f15.inR) := by kernel_rfl
theorem f15.ok (K : Nat) : EntryOK Try.prog 15 (f15.E K) :=
  gen_ok mix tys_ok (f15.tabOK K) Try.func15 (by kernel_rfl : Try.f15.body = some f15.c) (by kernel_rfl) (f15.loops K) (av := f15.av) (bl := f15.bl) (out := f15.out) (fuel := 400)
    (by intro s x h; unfold f15.inA at h; split at h <;> simp at h; subst h; rfl) (fun _ => Nat.le_of_ble_eq_true rfl)
    (by intro s y h; unfold f15.inR at h; split at h <;> simp at h <;> subst h <;> rfl) (fun _ _ _ => rfl) (f15.eq K)
end Go.Proofs
