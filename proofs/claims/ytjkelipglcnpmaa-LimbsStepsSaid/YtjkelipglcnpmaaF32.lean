/- One Go function: a Lean function with the same answers, and the proof that the call comes to them. -/
import Derived.Test.YtjkelipglcnpmaaTy
import Derived.Test.YtjkelipglcnpmaaF92
import Derived.Test.YtjkelipglcnpmaaF93
namespace Go.Proofs
open Go.VM
/-! ### burrow/limbs.Add -/
noncomputable def f32.c : Code := bodyOf Try.f32
def f32.s0t (_K : Nat) (rec : Int × Int × List Int × List Int × List Int → Option (Int × List Int × List Int)) (t8 : Int) (t14 : Int) (b2 : List Int) (b3 : List Int) (b4 : List Int) : Option (Int × List Int × List Int) :=
  bif (decide (t14 < 8)) then
    bif decide (0 ≤ t14 ∧ t14 < 8) then
      bif decide (0 ≤ t14 ∧ t14 < 8) then
        let v25 := IntKind.wrap .u64 (t8 + (IntKind.wrap .u64 ((List.getD b3 (Int.toNat t14) 0) + (List.getD b4 (Int.toNat t14) 0))))
        bif decide (0 ≤ t14 ∧ t14 < 8) then
          rec ((Int.fdiv v25 (2 ^ 32)), (IntKind.wrap .i64 (t14 + 1)), b2, (setD b3 (Int.toNat t14) (bits .and .u64 v25 4294967295)), b4)
        else
          none
      else
        none
    else
      none
  else
    some (t8, b2, b3)
def f32.s0 (K : Nat) (rec : Int × Int × List Int × List Int × List Int → Option (Int × List Int × List Int)) (x : Int × Int × List Int × List Int × List Int) : Option (Int × List Int × List Int) := f32.s0t K rec x.1 x.2.1 x.2.2.1 x.2.2.2.1 x.2.2.2.2
noncomputable def f32.s0.b : Code := (findLoop 0 f32.c).getD .skip
def f32.s0.h : Hint := ⟨[4, 6, 7, 8, 14], [2, 3, 4], 5⟩
def f32.s0.ho : Hint := ⟨[4, 6, 8], [2, 3], 5⟩
def f32.s0.shp (x : Int × Int × List Int × List Int × List Int) : VS := ⟨[(4, .ptr 2 0), (6, .ptr 3 0), (7, .ptr 4 0), (8, .int .u64 x.1), (14, .int .i64 x.2.1)], [(2, ([.ints .u64 4 x.2.2.1], 24)), (3, ([.ints .u64 8 x.2.2.2.1], 78)), (4, ([.ints .u64 8 x.2.2.2.2], 78))], 5⟩
def f32.s0.inX : VS → Option (Int × Int × List Int × List Int × List Int)
  | ⟨[(4, .ptr 2 0), (6, .ptr 3 0), (7, .ptr 4 0), (8, .int .u64 t8), (14, .int .i64 t14)], [(2, ([.ints .u64 4 b2], 24)), (3, ([.ints .u64 8 b3], 78)), (4, ([.ints .u64 8 b4], 78))], 5⟩ => some (t8, t14, b2, b3, b4)
  | _ => none
def f32.s0.out (y : Int × List Int × List Int) : Ex × VS := (.exit 0, ⟨[(4, .ptr 2 0), (6, .ptr 3 0), (8, .int .u64 y.1)], [(2, ([.ints .u64 4 y.2.1], 24)), (3, ([.ints .u64 8 y.2.2], 78))], 5⟩)
def f32.s0.inY : Ex → VS → Option (Int × List Int × List Int)
  | .exit 0, ⟨[(4, .ptr 2 0), (6, .ptr 3 0), (8, .int .u64 t8)], [(2, ([.ints .u64 4 b2], 24)), (3, ([.ints .u64 8 b3], 78))], 5⟩ => some (t8, b2, b3)
  | _, _ => none
def f32.lp (K : Nat) : Nat → Option (Hint × Summ) := tabLp [(0, f32.s0.h, summOf (iter (f32.s0 K) K) f32.s0.inX f32.s0.out)]
noncomputable def f32.tab (K : Nat) : List (Nat × Entry) := [(92, f92.E K), (93, f93.E K)]
theorem f32.tabOK (K : Nat) : SpecOK Try.prog (tabSp (f32.tab K)) := tab_ok ((tab_cons (f92.ok K) (tab_cons (f93.ok K) tab_nil)))
theorem f32.s0.eq (K : Nat) (rec : Int × Int × List Int × List Int × List Int → Option (Int × List Int × List Int)) (x : Int × Int × List Int × List Int × List Int) : f32.s0 K rec x = roundL (getA tys) (tabSp (f32.tab K)) 36 0 (f32.lp K) 400 f32.s0.b f32.s0.h f32.s0.ho f32.s0.shp f32.s0.inX f32.s0.inY rec x := by kernel_rfl
theorem f32.s0.lok (K : Nat) : LoopsOK Try.prog 36 0 (f32.lp K) f32.s0.b := loops_ok (by
  have h : loopsIn (f32.lp K) f32.s0.b = [] := by kernel_rfl
  rw [h]; simp)
theorem f32.s0.ok (K : Nat) : SummOK Try.prog 36 0 (summOf (iter (f32.s0 K) K) f32.s0.inX f32.s0.out) f32.s0.h f32.s0.b := by
  exact loop_ok mix tys_ok (f32.tabOK K) (h := f32.s0.h) (ho := f32.s0.ho) (shp := f32.s0.shp) (inX := f32.s0.inX) (out := f32.s0.out) (inY := f32.s0.inY) (fuel := 400)
    (by intro st x h; unfold f32.s0.inX at h; split at h <;> simp at h; subst h; rfl)
    (by intro e st y h; unfold f32.s0.inY at h; split at h <;> simp at h <;> subst h <;> rfl)
    (f32.s0.lok K) (f32.s0 K) (f32.s0.eq K) K
theorem f32.loops (K : Nat) : LoopsOK Try.prog 36 0 (f32.lp K) f32.c := loops_ok (by
  have h : loopsIn (f32.lp K) f32.c = [(0, f32.s0.b)] := by kernel_rfl
  rw [h]
  intro p hp
  simp only [List.mem_cons, List.not_mem_nil, or_false] at hp
  rcases hp with rfl
  · exact ⟨_, rfl, f32.s0.ok K⟩)
def f32.T (K : Nat) (a0 : List Int) (a1 : List Int) : Option (List Int × Int) :=
  (f92.F K a0).bind fun y1 =>
  (f92.F K a1).bind fun y2 =>
  (iter (f32.s0 K) K (0, 0, [0, 0, 0, 0], y1, y2)).bind fun y30 =>
  (f93.F K y30.2.2).bind fun y31 =>
  some (y31, y30.1)
def f32.F (K : Nat) (x : List Int × List Int) : Option (List Int × Int) := f32.T K x.1 x.2
def f32.mk (y : List Int × Int) : VV := .tup [.agg [.ints .u64 4 y.1], .int .u64 y.2]
def f32.inA : List VV → Option (List Int × List Int)
  | [.agg [.ints .u64 4 a0], .agg [.ints .u64 4 a1]] => some (a0, a1)
  | _ => none
def f32.shp (x : List Int × List Int) : List VV := [.agg [.ints .u64 4 x.1], .agg [.ints .u64 4 x.2]]
def f32.inR : VV → Option (List Int × Int)
  | .tup [.agg [.ints .u64 4 y0], .int .u64 y1] => some (y0, y1)
  | _ => none
noncomputable def f32.E (K : Nat) : Entry := pureE f32.inA (f32.F K) f32.mk
theorem f32.eq (K : Nat) (x : List Int × List Int) : f32.F K x = xrun (getA tys) (tabSp (f32.tab K)) Try.f32.ntmps 0 (f32.lp K) 400 f32.c ⟨initL 0 (f32.shp x), [], 0⟩ (contF (getA tys) Try.f32.results.toList fun v _ => f32.inR v) := by kernel_rfl
theorem f32.ok (K : Nat) : EntryOK Try.prog 32 (f32.E K) :=
  pure_ok mix tys_ok (f32.tabOK K) Try.func32 (by kernel_rfl : Try.f32.body = some f32.c) (by kernel_rfl) (f32.loops K) (shp := f32.shp) (fuel := 400)
    (by intro vs x h; unfold f32.inA at h; split at h <;> simp at h; subst h; rfl) (by intro v y h; unfold f32.inR at h; split at h <;> simp at h; subst h; exact ⟨rfl, rfl⟩)
    (by intro x; exact ⟨Nat.le_of_ble_eq_true rfl, rfl⟩) (f32.eq K)
end Go.Proofs
