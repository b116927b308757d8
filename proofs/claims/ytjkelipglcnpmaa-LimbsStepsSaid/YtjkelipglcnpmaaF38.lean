/- One Go function: a Lean function with the same answers, and the proof that the call comes to them. -/
import Derived.Test.YtjkelipglcnpmaaTy
import Derived.Test.YtjkelipglcnpmaaF92
import Derived.Test.YtjkelipglcnpmaaF93
namespace Go.Proofs
open Go.VM
/-! ### burrow/limbs.Shift -/
noncomputable def f38.c : Code := bodyOf Try.f38
def f38.s2t (_K : Nat) (rec : Int × Int × List Int × Int × List Int × Int × List Int × List Int → Option (Int × List Int × Int × List Int × List Int)) (t7 : Int) (t11 : Int) (t27 : List Int) (t28 : Int) (t49 : List Int) (t50 : Int) (b1 : List Int) (b3 : List Int) : Option (Int × List Int × Int × List Int × List Int) :=
  bif (decide (t50 < 2)) then
    bif decide (0 ≤ t50 ∧ t50 < 2) then
      bif (decide ((IntKind.wrap .i64 (t11 + t50)) ≥ 0)) then
        bif (decide ((IntKind.wrap .i64 (t11 + t50)) < 8)) then
          let v50 := IntKind.wrap .i64 (t11 + t50)
          bif decide (0 ≤ v50 ∧ v50 < 8) then
            bif decide (0 ≤ v50 ∧ v50 < 8) then
              rec (t7, t11, t27, t28, t49, (IntKind.wrap .i64 (t50 + 1)), b1, (setD b3 (Int.toNat v50) (bits .or .u64 (List.getD b3 (Int.toNat v50) 0) (List.getD t49 (Int.toNat t50) 0))))
            else
              none
          else
            none
        else
          rec (t7, t11, t27, t28, t49, (IntKind.wrap .i64 (t50 + 1)), b1, b3)
      else
        rec (t7, t11, t27, t28, t49, (IntKind.wrap .i64 (t50 + 1)), b1, b3)
    else
      none
  else
    some (t7, t27, t28, b1, b3)
def f38.s2 (K : Nat) (rec : Int × Int × List Int × Int × List Int × Int × List Int × List Int → Option (Int × List Int × Int × List Int × List Int)) (x : Int × Int × List Int × Int × List Int × Int × List Int × List Int) : Option (Int × List Int × Int × List Int × List Int) := f38.s2t K rec x.1 x.2.1 x.2.2.1 x.2.2.2.1 x.2.2.2.2.1 x.2.2.2.2.2.1 x.2.2.2.2.2.2.1 x.2.2.2.2.2.2.2
noncomputable def f38.s2.b : Code := (findLoop 2 f38.c).getD .skip
def f38.s2.h : Hint := ⟨[4, 6, 7, 11, 27, 28, 49, 50], [1, 3], 4⟩
def f38.s2.ho : Hint := ⟨[4, 6, 7, 27, 28], [1, 3], 4⟩
def f38.s2.shp (x : Int × Int × List Int × Int × List Int × Int × List Int × List Int) : VS := ⟨[(4, .ptr 1 0), (6, .ptr 3 0), (7, .int .i64 x.1), (11, .int .i64 x.2.1), (27, .agg [.ints .u64 8 x.2.2.1]), (28, .int .i64 x.2.2.2.1), (49, .agg [.ints .u64 2 x.2.2.2.2.1]), (50, .int .i64 x.2.2.2.2.2.1)], [(1, ([.ints .u64 4 x.2.2.2.2.2.2.1], 24)), (3, ([.ints .u64 8 x.2.2.2.2.2.2.2], 78))], 4⟩
def f38.s2.inX : VS → Option (Int × Int × List Int × Int × List Int × Int × List Int × List Int)
  | ⟨[(4, .ptr 1 0), (6, .ptr 3 0), (7, .int .i64 t7), (11, .int .i64 t11), (27, .agg [.ints .u64 8 t27]), (28, .int .i64 t28), (49, .agg [.ints .u64 2 t49]), (50, .int .i64 t50)], [(1, ([.ints .u64 4 b1], 24)), (3, ([.ints .u64 8 b3], 78))], 4⟩ => some (t7, t11, t27, t28, t49, t50, b1, b3)
  | _ => none
def f38.s2.out (y : Int × List Int × Int × List Int × List Int) : Ex × VS := (.exit 2, ⟨[(4, .ptr 1 0), (6, .ptr 3 0), (7, .int .i64 y.1), (27, .agg [.ints .u64 8 y.2.1]), (28, .int .i64 y.2.2.1)], [(1, ([.ints .u64 4 y.2.2.2.1], 24)), (3, ([.ints .u64 8 y.2.2.2.2], 78))], 4⟩)
def f38.s2.inY : Ex → VS → Option (Int × List Int × Int × List Int × List Int)
  | .exit 2, ⟨[(4, .ptr 1 0), (6, .ptr 3 0), (7, .int .i64 t7), (27, .agg [.ints .u64 8 t27]), (28, .int .i64 t28)], [(1, ([.ints .u64 4 b1], 24)), (3, ([.ints .u64 8 b3], 78))], 4⟩ => some (t7, t27, t28, b1, b3)
  | _, _ => none
def f38.s0t (K : Nat) (rec : Int × List Int × Int × List Int × List Int → Option (List Int × List Int)) (t7 : Int) (t27 : List Int) (t28 : Int) (b1 : List Int) (b3 : List Int) : Option (List Int × List Int) :=
  bif (decide (t28 < 8)) then
    bif decide (0 ≤ t28 ∧ t28 < 8) then
      let v73 := List.getD t27 (Int.toNat t28) 0
      let v75 := IntKind.wrap .i64 ((IntKind.wrap .i64 (t28 * 32)) + t7)
      let v78 := Int.tmod v75 32
      bif decide (0 ≤ v78) then
        bif decide (0 ≤ v78) then
          (iter (f38.s2 K) K (t7, (IntKind.wrap .i64 ((IntKind.wrap .i64 (Int.tdiv v75 32)) - 8)), t27, t28, [(bits .and .u64 (shiftI .shl .u64 v73 v78) 4294967295), (Int.fdiv (shiftI .shl .u64 v73 v78) (2 ^ 32))], 0, b1, b3)).bind fun y83 =>
          rec (y83.1, y83.2.1, (IntKind.wrap .i64 (y83.2.2.1 + 1)), y83.2.2.2.1, y83.2.2.2.2)
        else
          none
      else
        none
    else
      none
  else
    some (b1, b3)
def f38.s0 (K : Nat) (rec : Int × List Int × Int × List Int × List Int → Option (List Int × List Int)) (x : Int × List Int × Int × List Int × List Int) : Option (List Int × List Int) := f38.s0t K rec x.1 x.2.1 x.2.2.1 x.2.2.2.1 x.2.2.2.2
noncomputable def f38.s0.b : Code := (findLoop 0 f38.c).getD .skip
def f38.s0.h : Hint := ⟨[4, 6, 7, 27, 28], [1, 3], 4⟩
def f38.s0.ho : Hint := ⟨[4, 6], [1, 3], 4⟩
def f38.s0.shp (x : Int × List Int × Int × List Int × List Int) : VS := ⟨[(4, .ptr 1 0), (6, .ptr 3 0), (7, .int .i64 x.1), (27, .agg [.ints .u64 8 x.2.1]), (28, .int .i64 x.2.2.1)], [(1, ([.ints .u64 4 x.2.2.2.1], 24)), (3, ([.ints .u64 8 x.2.2.2.2], 78))], 4⟩
def f38.s0.inX : VS → Option (Int × List Int × Int × List Int × List Int)
  | ⟨[(4, .ptr 1 0), (6, .ptr 3 0), (7, .int .i64 t7), (27, .agg [.ints .u64 8 t27]), (28, .int .i64 t28)], [(1, ([.ints .u64 4 b1], 24)), (3, ([.ints .u64 8 b3], 78))], 4⟩ => some (t7, t27, t28, b1, b3)
  | _ => none
def f38.s0.out (y : List Int × List Int) : Ex × VS := (.exit 0, ⟨[(4, .ptr 1 0), (6, .ptr 3 0)], [(1, ([.ints .u64 4 y.1], 24)), (3, ([.ints .u64 8 y.2], 78))], 4⟩)
def f38.s0.inY : Ex → VS → Option (List Int × List Int)
  | .exit 0, ⟨[(4, .ptr 1 0), (6, .ptr 3 0)], [(1, ([.ints .u64 4 b1], 24)), (3, ([.ints .u64 8 b3], 78))], 4⟩ => some (b1, b3)
  | _, _ => none
def f38.lp (K : Nat) : Nat → Option (Hint × Summ) := tabLp [(2, f38.s2.h, summOf (iter (f38.s2 K) K) f38.s2.inX f38.s2.out), (0, f38.s0.h, summOf (iter (f38.s0 K) K) f38.s0.inX f38.s0.out)]
noncomputable def f38.tab (K : Nat) : List (Nat × Entry) := [(92, f92.E K), (93, f93.E K)]
theorem f38.tabOK (K : Nat) : SpecOK Try.prog (tabSp (f38.tab K)) := tab_ok ((tab_cons (f92.ok K) (tab_cons (f93.ok K) tab_nil)))
theorem f38.s2.eq (K : Nat) (rec : Int × Int × List Int × Int × List Int × Int × List Int × List Int → Option (Int × List Int × Int × List Int × List Int)) (x : Int × Int × List Int × Int × List Int × Int × List Int × List Int) : f38.s2 K rec x = roundL (getA tys) (tabSp (f38.tab K)) 76 0 (f38.lp K) 400 f38.s2.b f38.s2.h f38.s2.ho f38.s2.shp f38.s2.inX f38.s2.inY rec x := by kernel_rfl
theorem f38.s0.eq (K : Nat) (rec : Int × List Int × Int × List Int × List Int → Option (List Int × List Int)) (x : Int × List Int × Int × List Int × List Int) : f38.s0 K rec x = roundL (getA tys) (tabSp (f38.tab K)) 76 0 (f38.lp K) 400 f38.s0.b f38.s0.h f38.s0.ho f38.s0.shp f38.s0.inX f38.s0.inY rec x := by kernel_rfl
theorem f38.s2.lok (K : Nat) : LoopsOK Try.prog 76 0 (f38.lp K) f38.s2.b := loops_ok (by
  have h : loopsIn (f38.lp K) f38.s2.b = [] := by kernel_rfl
  rw [h]; simp)
theorem f38.s2.ok (K : Nat) : SummOK Try.prog 76 0 (summOf (iter (f38.s2 K) K) f38.s2.inX f38.s2.out) f38.s2.h f38.s2.b := by
  exact loop_ok mix tys_ok (f38.tabOK K) (h := f38.s2.h) (ho := f38.s2.ho) (shp := f38.s2.shp) (inX := f38.s2.inX) (out := f38.s2.out) (inY := f38.s2.inY) (fuel := 400)
    (by intro st x h; unfold f38.s2.inX at h; split at h <;> simp at h; subst h; rfl)
    (by intro e st y h; unfold f38.s2.inY at h; split at h <;> simp at h <;> subst h <;> rfl)
    (f38.s2.lok K) (f38.s2 K) (f38.s2.eq K) K
theorem f38.s0.lok (K : Nat) : LoopsOK Try.prog 76 0 (f38.lp K) f38.s0.b := loops_ok (by
  have h : loopsIn (f38.lp K) f38.s0.b = [(2, f38.s2.b)] := by kernel_rfl
  rw [h]
  intro p hp
  simp only [List.mem_cons, List.not_mem_nil, or_false] at hp
  rcases hp with rfl
  · exact ⟨_, rfl, f38.s2.ok K⟩)
theorem f38.s0.ok (K : Nat) : SummOK Try.prog 76 0 (summOf (iter (f38.s0 K) K) f38.s0.inX f38.s0.out) f38.s0.h f38.s0.b := by
  exact loop_ok mix tys_ok (f38.tabOK K) (h := f38.s0.h) (ho := f38.s0.ho) (shp := f38.s0.shp) (inX := f38.s0.inX) (out := f38.s0.out) (inY := f38.s0.inY) (fuel := 400)
    (by intro st x h; unfold f38.s0.inX at h; split at h <;> simp at h; subst h; rfl)
    (by intro e st y h; unfold f38.s0.inY at h; split at h <;> simp at h <;> subst h <;> rfl)
    (f38.s0.lok K) (f38.s0 K) (f38.s0.eq K) K
theorem f38.loops (K : Nat) : LoopsOK Try.prog 76 0 (f38.lp K) f38.c := loops_ok (by
  have h : loopsIn (f38.lp K) f38.c = [(0, f38.s0.b)] := by kernel_rfl
  rw [h]
  intro p hp
  simp only [List.mem_cons, List.not_mem_nil, or_false] at hp
  rcases hp with rfl
  · exact ⟨_, rfl, f38.s0.ok K⟩)
def f38.T (K : Nat) (a0 : List Int) (a1 : Int) : Option (List Int) :=
  (f92.F K a0).bind fun y1 =>
  bif (decide (a1 ≤ (-256))) then
    (f93.F K [0, 0, 0, 0, 0, 0, 0, 0]).bind fun y3 =>
    some y3
  else
    bif (decide (a1 ≥ 256)) then
      (f93.F K [0, 0, 0, 0, 0, 0, 0, 0]).bind fun y5 =>
      some y5
    else
      (iter (f38.s0 K) K ((IntKind.wrap .i64 (a1 + 256)), y1, 0, [0, 0, 0, 0], [0, 0, 0, 0, 0, 0, 0, 0])).bind fun y85 =>
      (f93.F K y85.2).bind fun y86 =>
      some y86
def f38.F (K : Nat) (x : List Int × Int) : Option (List Int) := f38.T K x.1 x.2
def f38.mk (y : List Int) : VV := .agg [.ints .u64 4 y]
def f38.inA : List VV → Option (List Int × Int)
  | [.agg [.ints .u64 4 a0], .int .i64 a1] => some (a0, a1)
  | _ => none
def f38.shp (x : List Int × Int) : List VV := [.agg [.ints .u64 4 x.1], .int .i64 x.2]
def f38.inR : VV → Option (List Int)
  | .agg [.ints .u64 4 y] => some y
  | _ => none
noncomputable def f38.E (K : Nat) : Entry := pureE f38.inA (f38.F K) f38.mk
theorem f38.eq (K : Nat) (x : List Int × Int) : f38.F K x = xrun (getA tys) (tabSp (f38.tab K)) Try.f38.ntmps 0 (f38.lp K) 400 f38.c ⟨initL 0 (f38.shp x), [], 0⟩ (contF (getA tys) Try.f38.results.toList fun v _ => f38.inR v) := by kernel_rfl
theorem f38.ok (K : Nat) : EntryOK Try.prog 38 (f38.E K) :=
  pure_ok mix tys_ok (f38.tabOK K) Try.func38 (by kernel_rfl : Try.f38.body = some f38.c) (by kernel_rfl) (f38.loops K) (shp := f38.shp) (fuel := 400)
    (by intro vs x h; unfold f38.inA at h; split at h <;> simp at h; subst h; rfl) (by intro v y h; unfold f38.inR at h; split at h <;> simp at h; subst h; exact ⟨rfl, rfl⟩)
    (by intro x; exact ⟨Nat.le_of_ble_eq_true rfl, rfl⟩) (f38.eq K)
end Go.Proofs
