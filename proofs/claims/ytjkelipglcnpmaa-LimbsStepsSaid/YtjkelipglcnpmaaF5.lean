/- One Go function: a Lean function with the same answers, and the proof that the call comes to them. -/
import Derived.Test.YtjkelipglcnpmaaTy
import Derived.Test.YtjkelipglcnpmaaF40
import Derived.Test.YtjkelipglcnpmaaF38
import Derived.Test.YtjkelipglcnpmaaF32
import Derived.Test.YtjkelipglcnpmaaF46
import Derived.Test.YtjkelipglcnpmaaF36
import Derived.Test.YtjkelipglcnpmaaF51
namespace Go.Proofs
open Go.VM
/-! ### burrow/burrowlaw02.LimbsSteps -/
noncomputable def f5.c : Code := bodyOf Try.f5
def f5.s0t (K : Nat) (rec : Int × List Int × List Int × List Int × List Int → Option (List Int × List Int × List Int × List Int)) (t7 : Int) (b0 : List Int) (b1 : List Int) (b2 : List Int) (b3 : List Int) : Option (List Int × List Int × List Int × List Int) :=
  bif (decide (t7 < 256)) then
    (f40.F K (b1, t7)).bind fun y24 =>
    bif (y24 == 0) then
      rec ((IntKind.wrap .i64 (t7 + 1)), b0, b1, b2, b3)
    else
      (f38.F K (b0, t7)).bind fun y26 =>
      (f32.F K (b2, y26)).bind fun y27 =>
      (f46.F K y27.2).bind fun y28 =>
      (f32.F K (b3, y28)).bind fun y29 =>
      (f38.F K (b0, (IntKind.wrap .i64 (t7 - 256)))).bind fun y31 =>
      (f32.F K (y29.1, y31)).bind fun y32 =>
      rec ((IntKind.wrap .i64 (t7 + 1)), b0, b1, y27.1, y32.1)
  else
    some (b0, b1, b2, b3)
def f5.s0 (K : Nat) (rec : Int × List Int × List Int × List Int × List Int → Option (List Int × List Int × List Int × List Int)) (x : Int × List Int × List Int × List Int × List Int) : Option (List Int × List Int × List Int × List Int) := f5.s0t K rec x.1 x.2.1 x.2.2.1 x.2.2.2.1 x.2.2.2.2
noncomputable def f5.s0.b : Code := (findLoop 0 f5.c).getD .skip
def f5.s0.h : Hint := ⟨[2, 3, 5, 6, 7], [0, 1, 2, 3], 4⟩
def f5.s0.ho : Hint := ⟨[2, 3, 5, 6], [0, 1, 2, 3], 4⟩
def f5.s0.shp (x : Int × List Int × List Int × List Int × List Int) : VS := ⟨[(2, .ptr 0 0), (3, .ptr 1 0), (5, .ptr 2 0), (6, .ptr 3 0), (7, .int .i64 x.1)], [(0, ([.ints .u64 4 x.2.1], 24)), (1, ([.ints .u64 4 x.2.2.1], 24)), (2, ([.ints .u64 4 x.2.2.2.1], 24)), (3, ([.ints .u64 4 x.2.2.2.2], 24))], 4⟩
def f5.s0.inX : VS → Option (Int × List Int × List Int × List Int × List Int)
  | ⟨[(2, .ptr 0 0), (3, .ptr 1 0), (5, .ptr 2 0), (6, .ptr 3 0), (7, .int .i64 t7)], [(0, ([.ints .u64 4 b0], 24)), (1, ([.ints .u64 4 b1], 24)), (2, ([.ints .u64 4 b2], 24)), (3, ([.ints .u64 4 b3], 24))], 4⟩ => some (t7, b0, b1, b2, b3)
  | _ => none
def f5.s0.out (y : List Int × List Int × List Int × List Int) : Ex × VS := (.exit 0, ⟨[(2, .ptr 0 0), (3, .ptr 1 0), (5, .ptr 2 0), (6, .ptr 3 0)], [(0, ([.ints .u64 4 y.1], 24)), (1, ([.ints .u64 4 y.2.1], 24)), (2, ([.ints .u64 4 y.2.2.1], 24)), (3, ([.ints .u64 4 y.2.2.2], 24))], 4⟩)
def f5.s0.inY : Ex → VS → Option (List Int × List Int × List Int × List Int)
  | .exit 0, ⟨[(2, .ptr 0 0), (3, .ptr 1 0), (5, .ptr 2 0), (6, .ptr 3 0)], [(0, ([.ints .u64 4 b0], 24)), (1, ([.ints .u64 4 b1], 24)), (2, ([.ints .u64 4 b2], 24)), (3, ([.ints .u64 4 b3], 24))], 4⟩ => some (b0, b1, b2, b3)
  | _, _ => none
def f5.lp (K : Nat) : Nat → Option (Hint × Summ) := tabLp [(0, f5.s0.h, summOf (iter (f5.s0 K) K) f5.s0.inX f5.s0.out)]
noncomputable def f5.tab (K : Nat) : List (Nat × Entry) := [(40, f40.E K), (38, f38.E K), (32, f32.E K), (46, f46.E K), (36, f36.E K), (51, f51.E K)]
theorem f5.tabOK (K : Nat) : SpecOK Try.prog (tabSp (f5.tab K)) := tab_ok ((tab_cons (f40.ok K) (tab_cons (f38.ok K) (tab_cons (f32.ok K) (tab_cons (f46.ok K) (tab_cons (f36.ok K) (tab_cons (f51.ok K) tab_nil)))))))
theorem f5.s0.eq (K : Nat) (rec : Int × List Int × List Int × List Int × List Int → Option (List Int × List Int × List Int × List Int)) (x : Int × List Int × List Int × List Int × List Int) : f5.s0 K rec x = roundL (getA tys) (tabSp (f5.tab K)) 60 0 (f5.lp K) 400 f5.s0.b f5.s0.h f5.s0.ho f5.s0.shp f5.s0.inX f5.s0.inY rec x := by kernel_rfl
theorem f5.s0.lok (K : Nat) : LoopsOK Try.prog 60 0 (f5.lp K) f5.s0.b := loops_ok (by
  have h : loopsIn (f5.lp K) f5.s0.b = [] := by kernel_rfl
  rw [h]; simp)
theorem f5.s0.ok (K : Nat) : SummOK Try.prog 60 0 (summOf (iter (f5.s0 K) K) f5.s0.inX f5.s0.out) f5.s0.h f5.s0.b := by
  exact loop_ok mix tys_ok (f5.tabOK K) (h := f5.s0.h) (ho := f5.s0.ho) (shp := f5.s0.shp) (inX := f5.s0.inX) (out := f5.s0.out) (inY := f5.s0.inY) (fuel := 400)
    (by intro st x h; unfold f5.s0.inX at h; split at h <;> simp at h; subst h; rfl)
    (by intro e st y h; unfold f5.s0.inY at h; split at h <;> simp at h <;> subst h <;> rfl)
    (f5.s0.lok K) (f5.s0 K) (f5.s0.eq K) K
theorem f5.loops (K : Nat) : LoopsOK Try.prog 60 0 (f5.lp K) f5.c := loops_ok (by
  have h : loopsIn (f5.lp K) f5.c = [(0, f5.s0.b)] := by kernel_rfl
  rw [h]
  intro p hp
  simp only [List.mem_cons, List.not_mem_nil, or_false] at hp
  rcases hp with rfl
  · exact ⟨_, rfl, f5.s0.ok K⟩)
def f5.T (K : Nat) (a0 : List Int) (a1 : List Int) : Option (Bool) :=
  (iter (f5.s0 K) K (0, a0, a1, [0, 0, 0, 0], [0, 0, 0, 0])).bind fun y34 =>
  (f36.F K (y34.1, y34.2.1)).bind fun y35 =>
  (f51.F K ()).bind fun y36 =>
  bif y36 then
    bif (eqL 4 y35.1 y34.2.2.1 && true) then
      some (eqL 4 y35.2 y34.2.2.2 && true)
    else
      some false
  else
    some false
def f5.F (K : Nat) (x : List Int × List Int) : Option (Bool) := f5.T K x.1 x.2
def f5.mk (y : Bool) : VV := .bool y
def f5.inA : List VV → Option (List Int × List Int)
  | [.agg [.ints .u64 4 a0], .agg [.ints .u64 4 a1]] => some (a0, a1)
  | _ => none
def f5.shp (x : List Int × List Int) : List VV := [.agg [.ints .u64 4 x.1], .agg [.ints .u64 4 x.2]]
def f5.inR : VV → Option (Bool)
  | .bool y => some y
  | _ => none
noncomputable def f5.E (K : Nat) : Entry := pureE f5.inA (f5.F K) f5.mk
theorem f5.eq (K : Nat) (x : List Int × List Int) : f5.F K x = xrun (getA tys) (tabSp (f5.tab K)) Try.f5.ntmps 0 (f5.lp K) 400 f5.c ⟨initL 0 (f5.shp x), [], 0⟩ (contF (getA tys) Try.f5.results.toList fun v _ => f5.inR v) := by kernel_rfl
theorem f5.ok (K : Nat) : EntryOK Try.prog 5 (f5.E K) :=
  pure_ok mix tys_ok (f5.tabOK K) Try.func5 (by kernel_rfl : Try.f5.body = some f5.c) (by kernel_rfl) (f5.loops K) (shp := f5.shp) (fuel := 400)
    (by intro vs x h; unfold f5.inA at h; split at h <;> simp at h; subst h; rfl) (by intro v y h; unfold f5.inR at h; split at h <;> simp at h; subst h; exact ⟨rfl, rfl⟩)
    (by intro x; exact ⟨Nat.le_of_ble_eq_true rfl, rfl⟩) (f5.eq K)
end Go.Proofs
