/- One Go function: a Lean function with the same answers, and the proof that the call comes to them. -/
import Derived.Test.YtjkelipglcnpmaaTy
import Derived.Test.YtjkelipglcnpmaaF92
import Derived.Test.YtjkelipglcnpmaaF94
import Derived.Test.YtjkelipglcnpmaaF93
namespace Go.Proofs
open Go.VM
/-! ### burrow/limbs.Mul -/
noncomputable def f36.c : Code := bodyOf Try.f36
def f36.s2t (K : Nat) (rec : Int × Int × Int × List Int × List Int × List Int × List Int × List Int → Option (Int × List Int × List Int × List Int × List Int × List Int)) (t10 : Int) (t17 : Int) (t20 : Int) (b2 : List Int) (b3 : List Int) (b4 : List Int) (b5 : List Int) (b6 : List Int) : Option (Int × List Int × List Int × List Int × List Int × List Int) :=
  bif (decide (t20 < 8)) then
    bif decide (0 ≤ t10 ∧ t10 < 8) then
      bif decide (0 ≤ t20 ∧ t20 < 8) then
        (f94.F K ((IntKind.wrap .i64 (t10 + t20)), (IntKind.wrap .u64 ((List.getD b4 (Int.toNat t10) 0) * (List.getD b5 (Int.toNat t20) 0))), b6)).bind fun y23 =>
        rec (t10, t17, (IntKind.wrap .i64 (t20 + 1)), b2, b3, b4, b5, y23)
      else
        none
    else
      none
  else
    some (t17, b2, b3, b4, b5, b6)
def f36.s2 (K : Nat) (rec : Int × Int × Int × List Int × List Int × List Int × List Int × List Int → Option (Int × List Int × List Int × List Int × List Int × List Int)) (x : Int × Int × Int × List Int × List Int × List Int × List Int × List Int) : Option (Int × List Int × List Int × List Int × List Int × List Int) := f36.s2t K rec x.1 x.2.1 x.2.2.1 x.2.2.2.1 x.2.2.2.2.1 x.2.2.2.2.2.1 x.2.2.2.2.2.2.1 x.2.2.2.2.2.2.2
noncomputable def f36.s2.b : Code := (findLoop 2 f36.c).getD .skip
def f36.s2.h : Hint := ⟨[4, 5, 6, 7, 8, 9, 10, 17, 20], [2, 3, 4, 5, 6], 7⟩
def f36.s2.ho : Hint := ⟨[4, 5, 6, 7, 8, 9, 17], [2, 3, 4, 5, 6], 7⟩
def f36.s2.shp (x : Int × Int × Int × List Int × List Int × List Int × List Int × List Int) : VS := ⟨[(4, .ptr 2 0), (5, .ptr 3 0), (6, .ptr 4 0), (7, .ptr 5 0), (8, .ptr 6 0), (9, .fn 94 [.ptr 6 0]), (10, .int .i64 x.1), (17, .int .i64 x.2.1), (20, .int .i64 x.2.2.1)], [(2, ([.ints .u64 4 x.2.2.2.1], 24)), (3, ([.ints .u64 4 x.2.2.2.2.1], 24)), (4, ([.ints .u64 8 x.2.2.2.2.2.1], 78)), (5, ([.ints .u64 8 x.2.2.2.2.2.2.1], 78)), (6, ([.ints .u64 16 x.2.2.2.2.2.2.2], 80))], 7⟩
def f36.s2.inX : VS → Option (Int × Int × Int × List Int × List Int × List Int × List Int × List Int)
  | ⟨[(4, .ptr 2 0), (5, .ptr 3 0), (6, .ptr 4 0), (7, .ptr 5 0), (8, .ptr 6 0), (9, .fn 94 [.ptr 6 0]), (10, .int .i64 t10), (17, .int .i64 t17), (20, .int .i64 t20)], [(2, ([.ints .u64 4 b2], 24)), (3, ([.ints .u64 4 b3], 24)), (4, ([.ints .u64 8 b4], 78)), (5, ([.ints .u64 8 b5], 78)), (6, ([.ints .u64 16 b6], 80))], 7⟩ => some (t10, t17, t20, b2, b3, b4, b5, b6)
  | _ => none
def f36.s2.out (y : Int × List Int × List Int × List Int × List Int × List Int) : Ex × VS := (.exit 2, ⟨[(4, .ptr 2 0), (5, .ptr 3 0), (6, .ptr 4 0), (7, .ptr 5 0), (8, .ptr 6 0), (9, .fn 94 [.ptr 6 0]), (17, .int .i64 y.1)], [(2, ([.ints .u64 4 y.2.1], 24)), (3, ([.ints .u64 4 y.2.2.1], 24)), (4, ([.ints .u64 8 y.2.2.2.1], 78)), (5, ([.ints .u64 8 y.2.2.2.2.1], 78)), (6, ([.ints .u64 16 y.2.2.2.2.2], 80))], 7⟩)
def f36.s2.inY : Ex → VS → Option (Int × List Int × List Int × List Int × List Int × List Int)
  | .exit 2, ⟨[(4, .ptr 2 0), (5, .ptr 3 0), (6, .ptr 4 0), (7, .ptr 5 0), (8, .ptr 6 0), (9, .fn 94 [.ptr 6 0]), (17, .int .i64 t17)], [(2, ([.ints .u64 4 b2], 24)), (3, ([.ints .u64 4 b3], 24)), (4, ([.ints .u64 8 b4], 78)), (5, ([.ints .u64 8 b5], 78)), (6, ([.ints .u64 16 b6], 80))], 7⟩ => some (t17, b2, b3, b4, b5, b6)
  | _, _ => none
def f36.s0t (K : Nat) (rec : Int × List Int × List Int × List Int × List Int × List Int → Option (List Int × List Int × List Int)) (t17 : Int) (b2 : List Int) (b3 : List Int) (b4 : List Int) (b5 : List Int) (b6 : List Int) : Option (List Int × List Int × List Int) :=
  bif (decide (t17 < 8)) then
    (iter (f36.s2 K) K (t17, t17, 0, b2, b3, b4, b5, b6)).bind fun y31 =>
    rec ((IntKind.wrap .i64 (y31.1 + 1)), y31.2.1, y31.2.2.1, y31.2.2.2.1, y31.2.2.2.2.1, y31.2.2.2.2.2)
  else
    some (b2, b3, b6)
def f36.s0 (K : Nat) (rec : Int × List Int × List Int × List Int × List Int × List Int → Option (List Int × List Int × List Int)) (x : Int × List Int × List Int × List Int × List Int × List Int) : Option (List Int × List Int × List Int) := f36.s0t K rec x.1 x.2.1 x.2.2.1 x.2.2.2.1 x.2.2.2.2.1 x.2.2.2.2.2
noncomputable def f36.s0.b : Code := (findLoop 0 f36.c).getD .skip
def f36.s0.h : Hint := ⟨[4, 5, 6, 7, 8, 9, 17], [2, 3, 4, 5, 6], 7⟩
def f36.s0.ho : Hint := ⟨[4, 5, 8], [2, 3, 6], 7⟩
def f36.s0.shp (x : Int × List Int × List Int × List Int × List Int × List Int) : VS := ⟨[(4, .ptr 2 0), (5, .ptr 3 0), (6, .ptr 4 0), (7, .ptr 5 0), (8, .ptr 6 0), (9, .fn 94 [.ptr 6 0]), (17, .int .i64 x.1)], [(2, ([.ints .u64 4 x.2.1], 24)), (3, ([.ints .u64 4 x.2.2.1], 24)), (4, ([.ints .u64 8 x.2.2.2.1], 78)), (5, ([.ints .u64 8 x.2.2.2.2.1], 78)), (6, ([.ints .u64 16 x.2.2.2.2.2], 80))], 7⟩
def f36.s0.inX : VS → Option (Int × List Int × List Int × List Int × List Int × List Int)
  | ⟨[(4, .ptr 2 0), (5, .ptr 3 0), (6, .ptr 4 0), (7, .ptr 5 0), (8, .ptr 6 0), (9, .fn 94 [.ptr 6 0]), (17, .int .i64 t17)], [(2, ([.ints .u64 4 b2], 24)), (3, ([.ints .u64 4 b3], 24)), (4, ([.ints .u64 8 b4], 78)), (5, ([.ints .u64 8 b5], 78)), (6, ([.ints .u64 16 b6], 80))], 7⟩ => some (t17, b2, b3, b4, b5, b6)
  | _ => none
def f36.s0.out (y : List Int × List Int × List Int) : Ex × VS := (.exit 0, ⟨[(4, .ptr 2 0), (5, .ptr 3 0), (8, .ptr 6 0)], [(2, ([.ints .u64 4 y.1], 24)), (3, ([.ints .u64 4 y.2.1], 24)), (6, ([.ints .u64 16 y.2.2], 80))], 7⟩)
def f36.s0.inY : Ex → VS → Option (List Int × List Int × List Int)
  | .exit 0, ⟨[(4, .ptr 2 0), (5, .ptr 3 0), (8, .ptr 6 0)], [(2, ([.ints .u64 4 b2], 24)), (3, ([.ints .u64 4 b3], 24)), (6, ([.ints .u64 16 b6], 80))], 7⟩ => some (b2, b3, b6)
  | _, _ => none
def f36.lp (K : Nat) : Nat → Option (Hint × Summ) := tabLp [(2, f36.s2.h, summOf (iter (f36.s2 K) K) f36.s2.inX f36.s2.out), (0, f36.s0.h, summOf (iter (f36.s0 K) K) f36.s0.inX f36.s0.out)]
noncomputable def f36.tab (K : Nat) : List (Nat × Entry) := [(92, f92.E K), (94, f94.E K), (93, f93.E K)]
theorem f36.tabOK (K : Nat) : SpecOK Try.prog (tabSp (f36.tab K)) := tab_ok ((tab_cons (f92.ok K) (tab_cons (f94.ok K) (tab_cons (f93.ok K) tab_nil))))
theorem f36.s2.eq (K : Nat) (rec : Int × Int × Int × List Int × List Int × List Int × List Int × List Int → Option (Int × List Int × List Int × List Int × List Int × List Int)) (x : Int × Int × Int × List Int × List Int × List Int × List Int × List Int) : f36.s2 K rec x = roundL (getA tys) (tabSp (f36.tab K)) 43 0 (f36.lp K) 400 f36.s2.b f36.s2.h f36.s2.ho f36.s2.shp f36.s2.inX f36.s2.inY rec x := by kernel_rfl
theorem f36.s0.eq (K : Nat) (rec : Int × List Int × List Int × List Int × List Int × List Int → Option (List Int × List Int × List Int)) (x : Int × List Int × List Int × List Int × List Int × List Int) : f36.s0 K rec x = roundL (getA tys) (tabSp (f36.tab K)) 43 0 (f36.lp K) 400 f36.s0.b f36.s0.h f36.s0.ho f36.s0.shp f36.s0.inX f36.s0.inY rec x := by kernel_rfl
theorem f36.s2.lok (K : Nat) : LoopsOK Try.prog 43 0 (f36.lp K) f36.s2.b := loops_ok (by
  have h : loopsIn (f36.lp K) f36.s2.b = [] := by kernel_rfl
  rw [h]; simp)
theorem f36.s2.ok (K : Nat) : SummOK Try.prog 43 0 (summOf (iter (f36.s2 K) K) f36.s2.inX f36.s2.out) f36.s2.h f36.s2.b := by
  exact loop_ok mix tys_ok (f36.tabOK K) (h := f36.s2.h) (ho := f36.s2.ho) (shp := f36.s2.shp) (inX := f36.s2.inX) (out := f36.s2.out) (inY := f36.s2.inY) (fuel := 400)
    (by intro st x h; unfold f36.s2.inX at h; split at h <;> simp at h; subst h; rfl)
    (by intro e st y h; unfold f36.s2.inY at h; split at h <;> simp at h <;> subst h <;> rfl)
    (f36.s2.lok K) (f36.s2 K) (f36.s2.eq K) K
theorem f36.s0.lok (K : Nat) : LoopsOK Try.prog 43 0 (f36.lp K) f36.s0.b := loops_ok (by
  have h : loopsIn (f36.lp K) f36.s0.b = [(2, f36.s2.b)] := by kernel_rfl
  rw [h]
  intro p hp
  simp only [List.mem_cons, List.not_mem_nil, or_false] at hp
  rcases hp with rfl
  · exact ⟨_, rfl, f36.s2.ok K⟩)
theorem f36.s0.ok (K : Nat) : SummOK Try.prog 43 0 (summOf (iter (f36.s0 K) K) f36.s0.inX f36.s0.out) f36.s0.h f36.s0.b := by
  exact loop_ok mix tys_ok (f36.tabOK K) (h := f36.s0.h) (ho := f36.s0.ho) (shp := f36.s0.shp) (inX := f36.s0.inX) (out := f36.s0.out) (inY := f36.s0.inY) (fuel := 400)
    (by intro st x h; unfold f36.s0.inX at h; split at h <;> simp at h; subst h; rfl)
    (by intro e st y h; unfold f36.s0.inY at h; split at h <;> simp at h <;> subst h <;> rfl)
    (f36.s0.lok K) (f36.s0 K) (f36.s0.eq K) K
theorem f36.loops (K : Nat) : LoopsOK Try.prog 43 0 (f36.lp K) f36.c := loops_ok (by
  have h : loopsIn (f36.lp K) f36.c = [(0, f36.s0.b)] := by kernel_rfl
  rw [h]
  intro p hp
  simp only [List.mem_cons, List.not_mem_nil, or_false] at hp
  rcases hp with rfl
  · exact ⟨_, rfl, f36.s0.ok K⟩)
def f36.T (K : Nat) (a0 : List Int) (a1 : List Int) : Option (List Int × List Int) :=
  (f92.F K a0).bind fun y1 =>
  (f92.F K a1).bind fun y2 =>
  (iter (f36.s0 K) K (0, [0, 0, 0, 0], [0, 0, 0, 0], y1, y2, [0, 0, 0, 0, 0, 0, 0, 0, 0, 0, 0, 0, 0, 0, 0, 0])).bind fun y33 =>
  (f93.F K (List.take 8 (List.drop 0 y33.2.2))).bind fun y35 =>
  (f93.F K (List.take 8 (List.drop 8 y33.2.2))).bind fun y37 =>
  some (y35, y37)
def f36.F (K : Nat) (x : List Int × List Int) : Option (List Int × List Int) := f36.T K x.1 x.2
def f36.mk (y : List Int × List Int) : VV := .tup [.agg [.ints .u64 4 y.1], .agg [.ints .u64 4 y.2]]
def f36.inA : List VV → Option (List Int × List Int)
  | [.agg [.ints .u64 4 a0], .agg [.ints .u64 4 a1]] => some (a0, a1)
  | _ => none
def f36.shp (x : List Int × List Int) : List VV := [.agg [.ints .u64 4 x.1], .agg [.ints .u64 4 x.2]]
def f36.inR : VV → Option (List Int × List Int)
  | .tup [.agg [.ints .u64 4 y0], .agg [.ints .u64 4 y1]] => some (y0, y1)
  | _ => none
noncomputable def f36.E (K : Nat) : Entry := pureE f36.inA (f36.F K) f36.mk
theorem f36.eq (K : Nat) (x : List Int × List Int) : f36.F K x = xrun (getA tys) (tabSp (f36.tab K)) Try.f36.ntmps 0 (f36.lp K) 400 f36.c ⟨initL 0 (f36.shp x), [], 0⟩ (contF (getA tys) Try.f36.results.toList fun v _ => f36.inR v) := by kernel_rfl
theorem f36.ok (K : Nat) : EntryOK Try.prog 36 (f36.E K) :=
  pure_ok mix tys_ok (f36.tabOK K) Try.func36 (by kernel_rfl : Try.f36.body = some f36.c) (by kernel_rfl) (f36.loops K) (shp := f36.shp) (fuel := 400)
    (by intro vs x h; unfold f36.inA at h; split at h <;> simp at h; subst h; rfl) (by intro v y h; unfold f36.inR at h; split at h <;> simp at h; subst h; exact ⟨rfl, rfl⟩)
    (by intro x; exact ⟨Nat.le_of_ble_eq_true rfl, rfl⟩) (f36.eq K)
end Go.Proofs
