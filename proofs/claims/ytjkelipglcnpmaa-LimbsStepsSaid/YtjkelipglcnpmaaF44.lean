/- One Go function: a Lean function with the same answers, and the proof that the call comes to them. -/
import Derived.Test.YtjkelipglcnpmaaTy
import Derived.Test.YtjkelipglcnpmaaF92
namespace Go.Proofs
open Go.VM
/-! ### burrow/limbs.Cmp -/
noncomputable def f44.c : Code := bodyOf Try.f44
def f44.s0t (_K : Nat) (rec : Int × List Int × List Int → Option (Int × List Int × List Int)) (t7 : Int) (b2 : List Int) (b3 : List Int) : Option (Int × List Int × List Int) :=
  bif decide (0 ≤ t7 ∧ t7 < 8) then
    bif decide (0 ≤ t7 ∧ t7 < 8) then
      bif ((List.getD b2 (Int.toNat t7) 0) == (List.getD b3 (Int.toNat t7) 0)) then
        rec ((IntKind.wrap .i64 (t7 - 1)), b2, b3)
      else
        some (t7, b2, b3)
    else
      none
  else
    none
def f44.s0 (K : Nat) (rec : Int × List Int × List Int → Option (Int × List Int × List Int)) (x : Int × List Int × List Int) : Option (Int × List Int × List Int) := f44.s0t K rec x.1 x.2.1 x.2.2
noncomputable def f44.s0.b : Code := (findLoop 0 f44.c).getD .skip
def f44.s0.h : Hint := ⟨[5, 6, 7], [2, 3], 4⟩
def f44.s0.ho : Hint := ⟨[5, 6, 7], [2, 3], 4⟩
def f44.s0.shp (x : Int × List Int × List Int) : VS := ⟨[(5, .ptr 2 0), (6, .ptr 3 0), (7, .int .i64 x.1)], [(2, ([.ints .u64 8 x.2.1], 78)), (3, ([.ints .u64 8 x.2.2], 78))], 4⟩
def f44.s0.inX : VS → Option (Int × List Int × List Int)
  | ⟨[(5, .ptr 2 0), (6, .ptr 3 0), (7, .int .i64 t7)], [(2, ([.ints .u64 8 b2], 78)), (3, ([.ints .u64 8 b3], 78))], 4⟩ => some (t7, b2, b3)
  | _ => none
def f44.s0.out (y : Int × List Int × List Int) : Ex × VS := (.exit 0, ⟨[(5, .ptr 2 0), (6, .ptr 3 0), (7, .int .i64 y.1)], [(2, ([.ints .u64 8 y.2.1], 78)), (3, ([.ints .u64 8 y.2.2], 78))], 4⟩)
def f44.s0.inY : Ex → VS → Option (Int × List Int × List Int)
  | .exit 0, ⟨[(5, .ptr 2 0), (6, .ptr 3 0), (7, .int .i64 t7)], [(2, ([.ints .u64 8 b2], 78)), (3, ([.ints .u64 8 b3], 78))], 4⟩ => some (t7, b2, b3)
  | _, _ => none
def f44.lp (K : Nat) : Nat → Option (Hint × Summ) := tabLp [(0, f44.s0.h, summOf (iter (f44.s0 K) K) f44.s0.inX f44.s0.out)]
noncomputable def f44.tab (K : Nat) : List (Nat × Entry) := [(92, f92.E K)]
theorem f44.tabOK (K : Nat) : SpecOK Try.prog (tabSp (f44.tab K)) := tab_ok ((tab_cons (f92.ok K) tab_nil))
theorem f44.s0.eq (K : Nat) (rec : Int × List Int × List Int → Option (Int × List Int × List Int)) (x : Int × List Int × List Int) : f44.s0 K rec x = roundL (getA tys) (tabSp (f44.tab K)) 31 0 (f44.lp K) 400 f44.s0.b f44.s0.h f44.s0.ho f44.s0.shp f44.s0.inX f44.s0.inY rec x := by kernel_rfl
theorem f44.s0.lok (K : Nat) : LoopsOK Try.prog 31 0 (f44.lp K) f44.s0.b := loops_ok (by
  have h : loopsIn (f44.lp K) f44.s0.b = [] := by kernel_rfl
  rw [h]; simp)
theorem f44.s0.ok (K : Nat) : SummOK Try.prog 31 0 (summOf (iter (f44.s0 K) K) f44.s0.inX f44.s0.out) f44.s0.h f44.s0.b := by
  exact loop_ok mix tys_ok (f44.tabOK K) (h := f44.s0.h) (ho := f44.s0.ho) (shp := f44.s0.shp) (inX := f44.s0.inX) (out := f44.s0.out) (inY := f44.s0.inY) (fuel := 400)
    (by intro st x h; unfold f44.s0.inX at h; split at h <;> simp at h; subst h; rfl)
    (by intro e st y h; unfold f44.s0.inY at h; split at h <;> simp at h <;> subst h <;> rfl)
    (f44.s0.lok K) (f44.s0 K) (f44.s0.eq K) K
theorem f44.loops (K : Nat) : LoopsOK Try.prog 31 0 (f44.lp K) f44.c := loops_ok (by
  have h : loopsIn (f44.lp K) f44.c = [(0, f44.s0.b)] := by kernel_rfl
  rw [h]
  intro p hp
  simp only [List.mem_cons, List.not_mem_nil, or_false] at hp
  rcases hp with rfl
  · exact ⟨_, rfl, f44.s0.ok K⟩)
def f44.T (K : Nat) (a0 : List Int) (a1 : List Int) : Option (Int) :=
  (f92.F K a0).bind fun y1 =>
  (f92.F K a1).bind fun y2 =>
  bif (eqL 8 y1 y2 && true) then
    some (0)
  else
    (iter (f44.s0 K) K (7, y1, y2)).bind fun y14 =>
    bif decide (0 ≤ y14.1 ∧ y14.1 < 8) then
      bif decide (0 ≤ y14.1 ∧ y14.1 < 8) then
        bif (decide ((List.getD y14.2.1 (Int.toNat y14.1) 0) < (List.getD y14.2.2 (Int.toNat y14.1) 0))) then
          some (-1)
        else
          some (1)
      else
        none
    else
      none
def f44.F (K : Nat) (x : List Int × List Int) : Option (Int) := f44.T K x.1 x.2
def f44.mk (y : Int) : VV := .int .i64 y
def f44.inA : List VV → Option (List Int × List Int)
  | [.agg [.ints .u64 4 a0], .agg [.ints .u64 4 a1]] => some (a0, a1)
  | _ => none
def f44.shp (x : List Int × List Int) : List VV := [.agg [.ints .u64 4 x.1], .agg [.ints .u64 4 x.2]]
def f44.inR : VV → Option (Int)
  | .int .i64 y => some y
  | _ => none
noncomputable def f44.E (K : Nat) : Entry := pureE f44.inA (f44.F K) f44.mk
theorem f44.eq (K : Nat) (x : List Int × List Int) : f44.F K x = xrun (getA tys) (tabSp (f44.tab K)) Try.f44.ntmps 0 (f44.lp K) 400 f44.c ⟨initL 0 (f44.shp x), [], 0⟩ (contF (getA tys) Try.f44.results.toList fun v _ => f44.inR v) := by kernel_rfl
theorem f44.ok (K : Nat) : EntryOK Try.prog 44 (f44.E K) :=
  pure_ok mix tys_ok (f44.tabOK K) Try.func44 (by kernel_rfl : Try.f44.body = some f44.c) (by kernel_rfl) (f44.loops K) (shp := f44.shp) (fuel := 400)
    (by intro vs x h; unfold f44.inA at h; split at h <;> simp at h; subst h; rfl) (by intro v y h; unfold f44.inR at h; split at h <;> simp at h; subst h; exact ⟨rfl, rfl⟩)
    (by intro x; exact ⟨Nat.le_of_ble_eq_true rfl, rfl⟩) (f44.eq K)
end Go.Proofs
