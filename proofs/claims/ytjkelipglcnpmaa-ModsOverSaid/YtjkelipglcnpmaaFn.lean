/- Go functions: for each a Lean function with the same answers, and the proof that the call comes to them, with no condition. -/
import Derived.Test.YtjkelipglcnpmaaFl
import Derived.Test.YtjkelipglcnpmaaFm
import Derived.Test.YtjkelipglcnpmaaFd
namespace Go.Proofs
open Go.VM
/-! ### burrow/burrowlaw04.ModsOver -/
noncomputable def f29.c : Code := bodyOf Try.f29
def f29.lp (_ : Nat) : Nat → Option (Hint × Summ) := fun _ => none
noncomputable def f29.tab (K : Nat) : List (Nat × Entry) := [(71, (f71.E K)), (72, (f72.E K)), (73, (f73.E K)), (63, (f63.E K)), (65, (f65.E K)), (75, (f75.E K)), (56, (f56.E K)), (52, (f52.E K)), (74, (f74.E K))]
theorem f29.tabOK (K : Nat) : SpecOK Try.prog (tabSp (f29.tab K)) := tab_ok ((tab_cons (f71.ok K) (tab_cons (f72.ok K) (tab_cons (f73.ok K) (tab_cons (f63.ok K) (tab_cons (f65.ok K) (tab_cons (f75.ok K) (tab_cons (f56.ok K) (tab_cons (f52.ok K) (tab_cons (f74.ok K) tab_nil))))))))))
theorem f29.loops (K : Nat) : LoopsOK Try.prog 130 0 (f29.lp K) f29.c := loops_ok (by
  have h : loopsIn (f29.lp K) f29.c = [] := by kernel_rfl
  rw [h]; simp)
def f29.T (K : Nat) (a0 : List Int) (a1 : List Int) (a2 : List Int) : Option (Bool) :=
  (f71.F K a2).bind fun y1 =>
  bif y1 then
    (f72.F K ()).bind fun y2 =>
    some y2
  else
    (f73.F K (a0, a2)).bind fun y3 =>
    (f73.F K (a1, a2)).bind fun y4 =>
    (f63.F K (y3, y4, a2)).bind fun y5 =>
    (f65.F K (y3, a2)).bind fun y6 =>
    bif (y5.2 != 0) then
      some false
    else
      (f75.F K 1).bind fun y7 =>
      bif (eqL 4 y5.1 y7 && true) then
        bif (!(eqL 4 y6.1 y4 && true)) then
          some false
        else
          bif (y6.2 != 0) then
            some false
          else
            (f56.F K (y3, a2)).bind fun y10 =>
            bif (y6.2 != 0) then
              (f52.F K (a2, y10)).bind fun y11 =>
              (f74.F K ()).bind fun y12 =>
              bif (eqL 4 y3 y12 && true) then
                (f75.F K 1).bind fun y14 =>
                (f73.F K (y14, a2)).bind fun y15 =>
                (f63.F K (y3, y15, a2)).bind fun y16 =>
                (f72.F K ()).bind fun y17 =>
                bif y17 then
                  bif (y6.2 == 7) then
                    (f74.F K ()).bind fun y18 =>
                    bif (eqL 4 y6.1 y18 && true) then
                      (f75.F K 1).bind fun y20 =>
                      bif (!(eqL 4 y10 y20 && true)) then
                        bif (y16.2 == 0) then
                          (f74.F K ()).bind fun y23 =>
                          some (eqL 4 y16.1 y23 && true)
                        else
                          some false
                      else
                        some false
                    else
                      some false
                  else
                    some false
                else
                  some false
              else
                (f73.F K (y11.1, a2)).bind fun y25 =>
                (f63.F K (y3, y25, a2)).bind fun y26 =>
                (f72.F K ()).bind fun y27 =>
                bif y27 then
                  bif (y6.2 == 7) then
                    (f74.F K ()).bind fun y28 =>
                    bif (eqL 4 y6.1 y28 && true) then
                      (f75.F K 1).bind fun y30 =>
                      bif (!(eqL 4 y10 y30 && true)) then
                        bif (y26.2 == 0) then
                          (f74.F K ()).bind fun y33 =>
                          some (eqL 4 y26.1 y33 && true)
                        else
                          some false
                      else
                        some false
                    else
                      some false
                  else
                    some false
                else
                  some false
            else
              (f63.F K (y3, y6.1, a2)).bind fun y35 =>
              (f72.F K ()).bind fun y36 =>
              bif y36 then
                (f75.F K 1).bind fun y37 =>
                bif (eqL 4 y10 y37 && true) then
                  bif (y35.2 == 0) then
                    (f75.F K 1).bind fun y40 =>
                    some (eqL 4 y35.1 y40 && true)
                  else
                    some false
                else
                  some false
              else
                some false
      else
        (f56.F K (y3, a2)).bind fun y42 =>
        bif (y6.2 != 0) then
          (f52.F K (a2, y42)).bind fun y43 =>
          (f74.F K ()).bind fun y44 =>
          bif (eqL 4 y3 y44 && true) then
            (f75.F K 1).bind fun y46 =>
            (f73.F K (y46, a2)).bind fun y47 =>
            (f63.F K (y3, y47, a2)).bind fun y48 =>
            (f72.F K ()).bind fun y49 =>
            bif y49 then
              bif (y6.2 == 7) then
                (f74.F K ()).bind fun y50 =>
                bif (eqL 4 y6.1 y50 && true) then
                  (f75.F K 1).bind fun y52 =>
                  bif (!(eqL 4 y42 y52 && true)) then
                    bif (y48.2 == 0) then
                      (f74.F K ()).bind fun y55 =>
                      some (eqL 4 y48.1 y55 && true)
                    else
                      some false
                  else
                    some false
                else
                  some false
              else
                some false
            else
              some false
          else
            (f73.F K (y43.1, a2)).bind fun y57 =>
            (f63.F K (y3, y57, a2)).bind fun y58 =>
            (f72.F K ()).bind fun y59 =>
            bif y59 then
              bif (y6.2 == 7) then
                (f74.F K ()).bind fun y60 =>
                bif (eqL 4 y6.1 y60 && true) then
                  (f75.F K 1).bind fun y62 =>
                  bif (!(eqL 4 y42 y62 && true)) then
                    bif (y58.2 == 0) then
                      (f74.F K ()).bind fun y65 =>
                      some (eqL 4 y58.1 y65 && true)
                    else
                      some false
                  else
                    some false
                else
                  some false
              else
                some false
            else
              some false
        else
          (f63.F K (y3, y6.1, a2)).bind fun y67 =>
          (f72.F K ()).bind fun y68 =>
          bif y68 then
            (f75.F K 1).bind fun y69 =>
            bif (eqL 4 y42 y69 && true) then
              bif (y67.2 == 0) then
                (f75.F K 1).bind fun y72 =>
                some (eqL 4 y67.1 y72 && true)
              else
                some false
            else
              some false
          else
            some false
def f29.F (K : Nat) (x : List Int × List Int × List Int) : Option (Bool) := f29.T K x.1 x.2.1 x.2.2
def f29.av (x : List Int × List Int × List Int) : List VV := [.agg [.ints .u64 4 x.1], .agg [.ints .u64 4 x.2.1], .agg [.ints .u64 4 x.2.2]]
def f29.bl (_x : List Int × List Int × List Int) : List (Nat × Blk) := []
def f29.inA : VS → Option (List Int × List Int × List Int)
  | ⟨[(0, .agg [.ints .u64 4 a0]), (1, .agg [.ints .u64 4 a1]), (2, .agg [.ints .u64 4 a2])], [], 0⟩ => some (a0, a1, a2)
  | _ => none
def f29.o0 (y : Bool) : VS := ⟨[(0, .bool y)], [], 0⟩
def f29.des : ∀ α : Type, Bool → (VS → Option α) → Option α := (dv1 f29.o0)
def f29.out : Bool → VS := f29.o0
def f29.inR : VS → Option (Bool)
  | ⟨[(0, .bool y)], [], 0⟩ => some y
  | _ => none
noncomputable def f29.E (K : Nat) : Entry := genE 0 f29.inA (f29.F K) f29.des
theorem f29.eq (K : Nat) (x : List Int × List Int × List Int) : f29.F K x = xrun (getA tys) (tabSp (f29.tab K)) Try.f29.ntmps 0 (f29.lp K) 400 f29.c ⟨initL 0 (f29.av x), f29.bl x, 0⟩ (contF (getA tys) 0 Try.f29.results.toList f29.inR) := by kernel_rfl
theorem f29.ok (K : Nat) : EntryOK Try.prog 29 (f29.E K) :=
  gen_ok mix tys_ok (f29.tabOK K) Try.func29 (by kernel_rfl : Try.f29.body = some f29.c) (by kernel_rfl) (f29.loops K) (av := f29.av) (bl := f29.bl) (out := f29.out) (fuel := 400)
    (by intro s x h; unfold f29.inA at h; split at h <;> simp at h; subst h; rfl) (fun _ => Nat.le_of_ble_eq_true rfl)
    (by intro s y h; unfold f29.inR at h; split at h <;> simp at h <;> subst h <;> rfl) (fun _ _ _ => rfl) (f29.eq K)
end Go.Proofs

namespace Go.Proofs
open Go.VM
/-! ### burrow/burrowlaw04.prime -/
noncomputable def f76.c : Code := bodyOf Try.f76
def f76.s0t (_K : Nat) (rec : Int × Int → Option ((Int × Bool) ⊕ Int)) (t0 : Int) (t3 : Int) : Option ((Int × Bool) ⊕ Int) :=
  bif (decide ((IntKind.wrap .u64 (t3 * t3)) ≤ t0)) then
    bif decide (t3 ≠ 0) then
      bif ((Int.tmod t0 t3) == 0) then
        some (.inl (t0, false))
      else
        rec (t0, (IntKind.wrap .u64 (t3 + 1)))
    else
      none
  else
    some (.inr t0)
def f76.s0 (K : Nat) (rec : Int × Int → Option ((Int × Bool) ⊕ Int)) (x : Int × Int) : Option ((Int × Bool) ⊕ Int) := f76.s0t K rec x.1 x.2
noncomputable def f76.s0.b : Code := (findLoop 0 f76.c).getD .skip
def f76.s0.h : Hint := { lv := [0, 3] }
def f76.s0.ho : Hint := { lv := [0, 2] }
def f76.s0.shp (x : Int × Int) : VS := ⟨[(0, .int .u64 x.1), (3, .int .u64 x.2)], [], 0⟩
def f76.s0.inX : VS → Option (Int × Int)
  | ⟨[(0, .int .u64 t0), (3, .int .u64 t3)], [], 0⟩ => some (t0, t3)
  | _ => none
def f76.s0.o0 (y : Int × Bool) : VS := ⟨[(0, .int .u64 y.1), (2, .bool y.2)], [], 0⟩
def f76.s0.o1 (y : Int) : VS := ⟨[(0, .int .u64 y)], [], 0⟩
def f76.s0.des : ∀ α : Type, ((Int × Bool) ⊕ Int) → (Ex → VS → Option α) → Option α := (desA (des1 (.ret) f76.s0.o0) (des1 (.exit 0) f76.s0.o1))
def f76.s0.out : (Int × Bool) ⊕ Int → Ex × VS := (alt (fun y => (.ret, f76.s0.o0 y)) (fun y => (.exit 0, f76.s0.o1 y)))
theorem f76.s0.desOK : ∀ α y (k : Ex → VS → Option α), f76.s0.des α y k = k (f76.s0.out y).1 (f76.s0.out y).2 := (desA_ok (fun _ _ _ => rfl) (fun _ _ _ => rfl))
def f76.s0.inY : Ex → VS → Option ((Int × Bool) ⊕ Int)
  | .ret, ⟨[(0, .int .u64 t0), (2, .bool t2)], [], 0⟩ => some (.inl (t0, t2))
  | .exit 0, ⟨[(0, .int .u64 t0)], [], 0⟩ => some (.inr t0)
  | _, _ => none
def f76.lp (K : Nat) : Nat → Option (Hint × Summ) := tabLp [(0, f76.s0.h, summOf (iter (f76.s0 K) K) f76.s0.inX f76.s0.des)]
noncomputable def f76.tab (_K : Nat) : List (Nat × Entry) := []
theorem f76.tabOK (K : Nat) : SpecOK Try.prog (tabSp (f76.tab K)) := tab_ok ( tab_nil)
theorem f76.s0.eq (K : Nat) (rec : Int × Int → Option ((Int × Bool) ⊕ Int)) (x : Int × Int) : f76.s0 K rec x = roundL (getA tys) (tabSp (f76.tab K)) 17 0 (f76.lp K) 400 f76.s0.b f76.s0.h f76.s0.ho f76.s0.shp f76.s0.inX f76.s0.inY rec x := by kernel_rfl
theorem f76.s0.lok (K : Nat) : LoopsOK Try.prog 17 0 (f76.lp K) f76.s0.b := loops_ok (by
  have h : loopsIn (f76.lp K) f76.s0.b = [] := by kernel_rfl
  rw [h]; simp)
theorem f76.s0.ok (K : Nat) : SummOK Try.prog 17 0 (summOf (iter (f76.s0 K) K) f76.s0.inX f76.s0.des) f76.s0.b :=
  loop_ok mix tys_ok (f76.tabOK K) (h := f76.s0.h) (ho := f76.s0.ho) (shp := f76.s0.shp) (inX := f76.s0.inX) (des := f76.s0.des) (out := f76.s0.out) (inY := f76.s0.inY) (fuel := 400)
    (by intro st x h; unfold f76.s0.inX at h; split at h <;> simp at h; subst h; rfl)
    (by intro e st y h; unfold f76.s0.inY at h; split at h <;> simp at h <;> subst h <;> rfl)
    f76.s0.desOK (f76.s0.lok K) (f76.s0 K) (f76.s0.eq K) K
theorem f76.loops (K : Nat) : LoopsOK Try.prog 17 0 (f76.lp K) f76.c := loops_ok (by
  have h : loopsIn (f76.lp K) f76.c = [(0, f76.s0.b)] := by kernel_rfl
  rw [h]
  intro p hp
  simp only [List.mem_cons, List.not_mem_nil, or_false] at hp
  rcases hp with rfl
  · exact ⟨_, rfl, (f76.s0.ok K)⟩)
def f76.T (K : Nat) (a0 : Int) : Option (Bool) :=
  (iter (f76.s0 K) K (a0, 2)).bind fun y5 =>
  alt (fun y6 =>
    some y6.2) (fun y7 =>
    some (decide (y7 > 1))) y5
def f76.F (K : Nat) (x : Int) : Option (Bool) := f76.T K x
def f76.av (x : Int) : List VV := [.int .u64 x]
def f76.bl (_x : Int) : List (Nat × Blk) := []
def f76.inA : VS → Option (Int)
  | ⟨[(0, .int .u64 a0)], [], 0⟩ => some a0
  | _ => none
def f76.o0 (y : Bool) : VS := ⟨[(0, .bool y)], [], 0⟩
def f76.des : ∀ α : Type, Bool → (VS → Option α) → Option α := (dv1 f76.o0)
def f76.out : Bool → VS := f76.o0
def f76.inR : VS → Option (Bool)
  | ⟨[(0, .bool y)], [], 0⟩ => some y
  | _ => none
noncomputable def f76.E (K : Nat) : Entry := genE 0 f76.inA (f76.F K) f76.des
theorem f76.eq (K : Nat) (x : Int) : f76.F K x = xrun (getA tys) (tabSp (f76.tab K)) Try.f76.ntmps 0 (f76.lp K) 400 f76.c ⟨initL 0 (f76.av x), f76.bl x, 0⟩ (contF (getA tys) 0 Try.f76.results.toList f76.inR) := by kernel_rfl
theorem f76.ok (K : Nat) : EntryOK Try.prog 76 (f76.E K) :=
  gen_ok mix tys_ok (f76.tabOK K) Try.func76 (by kernel_rfl : Try.f76.body = some f76.c) (by kernel_rfl) (f76.loops K) (av := f76.av) (bl := f76.bl) (out := f76.out) (fuel := 400)
    (by intro s x h; unfold f76.inA at h; split at h <;> simp at h; subst h; rfl) (fun _ => Nat.le_of_ble_eq_true rfl)
    (by intro s y h; unfold f76.inR at h; split at h <;> simp at h <;> subst h <;> rfl) (fun _ _ _ => rfl) (f76.eq K)
end Go.Proofs

namespace Go.Proofs
open Go.VM
/-! ### burrow/burrowlaw04.ModsPrime -/
noncomputable def f21.c : Code := bodyOf Try.f21
def f21.lp (_ : Nat) : Nat → Option (Hint × Summ) := fun _ => none
noncomputable def f21.tab (K : Nat) : List (Nat × Entry) := [(76, (f76.E K)), (72, (f72.E K)), (75, (f75.E K)), (73, (f73.E K)), (64, (f64.E K)), (65, (f65.E K)), (74, (f74.E K))]
theorem f21.tabOK (K : Nat) : SpecOK Try.prog (tabSp (f21.tab K)) := tab_ok ((tab_cons (f76.ok K) (tab_cons (f72.ok K) (tab_cons (f75.ok K) (tab_cons (f73.ok K) (tab_cons (f64.ok K) (tab_cons (f65.ok K) (tab_cons (f74.ok K) tab_nil))))))))
theorem f21.loops (K : Nat) : LoopsOK Try.prog 92 0 (f21.lp K) f21.c := loops_ok (by
  have h : loopsIn (f21.lp K) f21.c = [] := by kernel_rfl
  rw [h]; simp)
def f21.T (K : Nat) (a0 : Int) (a1 : List Int) : Option (Bool) :=
  (f76.F K (IntKind.wrap .u64 a0)).bind fun y2 =>
  bif !y2 then
    (f72.F K ()).bind fun y3 =>
    some y3
  else
    (f75.F K (IntKind.wrap .u64 a0)).bind fun y5 =>
    (f73.F K (a1, y5)).bind fun y6 =>
    (f64.F K (y6, y5, y5)).bind fun y7 =>
    (f65.F K (y6, y5)).bind fun y8 =>
    (f74.F K ()).bind fun y9 =>
    bif (eqL 4 y6 y9 && true) then
      (f74.F K ()).bind fun y11 =>
      bif (eqL 4 y7.1 y11 && true) then
        bif (y7.2 == 0) then
          bif (y8.2 == 7) then
            (f74.F K ()).bind fun y13 =>
            bif (eqL 4 y8.1 y13 && true) then
              (f72.F K ()).bind fun y15 =>
              some y15
            else
              some false
          else
            some false
        else
          some false
      else
        some false
    else
      (f75.F K (IntKind.wrap .u64 ((IntKind.wrap .u64 a0) - 2))).bind fun y18 =>
      (f64.F K (y6, y18, y5)).bind fun y19 =>
      (f72.F K ()).bind fun y20 =>
      bif y20 then
        bif (y7.2 == 0) then
          bif (eqL 4 y7.1 y6 && true) then
            bif (y8.2 == 0) then
              bif (y19.2 == 0) then
                some (eqL 4 y19.1 y8.1 && true)
              else
                some false
            else
              some false
          else
            some false
        else
          some false
      else
        some false
def f21.F (K : Nat) (x : Int × List Int) : Option (Bool) := f21.T K x.1 x.2
def f21.av (x : Int × List Int) : List VV := [.int .u16 x.1, .agg [.ints .u64 4 x.2]]
def f21.bl (_x : Int × List Int) : List (Nat × Blk) := []
def f21.inA : VS → Option (Int × List Int)
  | ⟨[(0, .int .u16 a0), (1, .agg [.ints .u64 4 a1])], [], 0⟩ => some (a0, a1)
  | _ => none
def f21.o0 (y : Bool) : VS := ⟨[(0, .bool y)], [], 0⟩
def f21.des : ∀ α : Type, Bool → (VS → Option α) → Option α := (dv1 f21.o0)
def f21.out : Bool → VS := f21.o0
def f21.inR : VS → Option (Bool)
  | ⟨[(0, .bool y)], [], 0⟩ => some y
  | _ => none
noncomputable def f21.E (K : Nat) : Entry := genE 0 f21.inA (f21.F K) f21.des
theorem f21.eq (K : Nat) (x : Int × List Int) : f21.F K x = xrun (getA tys) (tabSp (f21.tab K)) Try.f21.ntmps 0 (f21.lp K) 400 f21.c ⟨initL 0 (f21.av x), f21.bl x, 0⟩ (contF (getA tys) 0 Try.f21.results.toList f21.inR) := by kernel_rfl
theorem f21.ok (K : Nat) : EntryOK Try.prog 21 (f21.E K) :=
  gen_ok mix tys_ok (f21.tabOK K) Try.func21 (by kernel_rfl : Try.f21.body = some f21.c) (by kernel_rfl) (f21.loops K) (av := f21.av) (bl := f21.bl) (out := f21.out) (fuel := 400)
    (by intro s x h; unfold f21.inA at h; split at h <;> simp at h; subst h; rfl) (fun _ => Nat.le_of_ble_eq_true rfl)
    (by intro s y h; unfold f21.inR at h; split at h <;> simp at h <;> subst h <;> rfl) (fun _ _ _ => rfl) (f21.eq K)
end Go.Proofs
