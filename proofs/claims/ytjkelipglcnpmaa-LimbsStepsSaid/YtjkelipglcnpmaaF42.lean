/- One Go function: a Lean function with the same answers, and the proof that the call comes to them. -/
import Derived.Test.YtjkelipglcnpmaaTy
import Derived.Test.YtjkelipglcnpmaaF92
namespace Go.Proofs
open Go.VM
/-! ### burrow/limbs.Bits -/
noncomputable def f42.c : Code := bodyOf Try.f42
def f42.s2t (_K : Nat) (rec : Int × Int × Int × Int × List Int × Int → Option (Int × List Int × Int)) (t2 : Int) (t3 : Int) (t4 : Int) (t5 : Int) (t7 : List Int) (t8 : Int) : Option (Int × List Int × Int) :=
  bif decide (0 ≤ t5) then
    bif (decide ((shiftI .shr .u64 t4 t5) > 0)) then
      rec ((IntKind.wrap .i64 ((IntKind.wrap .i64 ((IntKind.wrap .i64 (32 * t3)) + t5)) + 1)), t3, t4, (IntKind.wrap .i64 (t5 + 1)), t7, t8)
    else
      some (t2, t7, t8)
  else
    none
def f42.s2 (K : Nat) (rec : Int × Int × Int × Int × List Int × Int → Option (Int × List Int × Int)) (x : Int × Int × Int × Int × List Int × Int) : Option (Int × List Int × Int) := f42.s2t K rec x.1 x.2.1 x.2.2.1 x.2.2.2.1 x.2.2.2.2.1 x.2.2.2.2.2
noncomputable def f42.s2.b : Code := (findLoop 2 f42.c).getD .skip
def f42.s2.h : Hint := ⟨[2, 3, 4, 5, 7, 8], [], 1⟩
def f42.s2.ho : Hint := ⟨[2, 7, 8], [], 1⟩
def f42.s2.shp (x : Int × Int × Int × Int × List Int × Int) : VS := ⟨[(2, .int .i64 x.1), (3, .int .i64 x.2.1), (4, .int .u64 x.2.2.1), (5, .int .i64 x.2.2.2.1), (7, .agg [.ints .u64 8 x.2.2.2.2.1]), (8, .int .i64 x.2.2.2.2.2)], [], 1⟩
def f42.s2.inX : VS → Option (Int × Int × Int × Int × List Int × Int)
  | ⟨[(2, .int .i64 t2), (3, .int .i64 t3), (4, .int .u64 t4), (5, .int .i64 t5), (7, .agg [.ints .u64 8 t7]), (8, .int .i64 t8)], [], 1⟩ => some (t2, t3, t4, t5, t7, t8)
  | _ => none
def f42.s2.out (y : Int × List Int × Int) : Ex × VS := (.exit 2, ⟨[(2, .int .i64 y.1), (7, .agg [.ints .u64 8 y.2.1]), (8, .int .i64 y.2.2)], [], 1⟩)
def f42.s2.inY : Ex → VS → Option (Int × List Int × Int)
  | .exit 2, ⟨[(2, .int .i64 t2), (7, .agg [.ints .u64 8 t7]), (8, .int .i64 t8)], [], 1⟩ => some (t2, t7, t8)
  | _, _ => none
def f42.s0t (K : Nat) (rec : Int × List Int × Int → Option (Int)) (t2 : Int) (t7 : List Int) (t8 : Int) : Option (Int) :=
  bif (decide (t8 < 8)) then
    bif decide (0 ≤ t8 ∧ t8 < 8) then
      (iter (f42.s2 K) K (t2, t8, (List.getD t7 (Int.toNat t8) 0), 0, t7, t8)).bind fun y30 =>
      rec (y30.1, y30.2.1, (IntKind.wrap .i64 (y30.2.2 + 1)))
    else
      none
  else
    some t2
def f42.s0 (K : Nat) (rec : Int × List Int × Int → Option (Int)) (x : Int × List Int × Int) : Option (Int) := f42.s0t K rec x.1 x.2.1 x.2.2
noncomputable def f42.s0.b : Code := (findLoop 0 f42.c).getD .skip
def f42.s0.h : Hint := ⟨[2, 7, 8], [], 1⟩
def f42.s0.ho : Hint := ⟨[2], [], 1⟩
def f42.s0.shp (x : Int × List Int × Int) : VS := ⟨[(2, .int .i64 x.1), (7, .agg [.ints .u64 8 x.2.1]), (8, .int .i64 x.2.2)], [], 1⟩
def f42.s0.inX : VS → Option (Int × List Int × Int)
  | ⟨[(2, .int .i64 t2), (7, .agg [.ints .u64 8 t7]), (8, .int .i64 t8)], [], 1⟩ => some (t2, t7, t8)
  | _ => none
def f42.s0.out (y : Int) : Ex × VS := (.exit 0, ⟨[(2, .int .i64 y)], [], 1⟩)
def f42.s0.inY : Ex → VS → Option (Int)
  | .exit 0, ⟨[(2, .int .i64 t2)], [], 1⟩ => some t2
  | _, _ => none
def f42.lp (K : Nat) : Nat → Option (Hint × Summ) := tabLp [(2, f42.s2.h, summOf (iter (f42.s2 K) K) f42.s2.inX f42.s2.out), (0, f42.s0.h, summOf (iter (f42.s0 K) K) f42.s0.inX f42.s0.out)]
noncomputable def f42.tab (K : Nat) : List (Nat × Entry) := [(92, f92.E K)]
theorem f42.tabOK (K : Nat) : SpecOK Try.prog (tabSp (f42.tab K)) := tab_ok ((tab_cons (f92.ok K) tab_nil))
theorem f42.s2.eq (K : Nat) (rec : Int × Int × Int × Int × List Int × Int → Option (Int × List Int × Int)) (x : Int × Int × Int × Int × List Int × Int) : f42.s2 K rec x = roundL (getA tys) (tabSp (f42.tab K)) 25 0 (f42.lp K) 400 f42.s2.b f42.s2.h f42.s2.ho f42.s2.shp f42.s2.inX f42.s2.inY rec x := by kernel_rfl
theorem f42.s0.eq (K : Nat) (rec : Int × List Int × Int → Option (Int)) (x : Int × List Int × Int) : f42.s0 K rec x = roundL (getA tys) (tabSp (f42.tab K)) 25 0 (f42.lp K) 400 f42.s0.b f42.s0.h f42.s0.ho f42.s0.shp f42.s0.inX f42.s0.inY rec x := by kernel_rfl
theorem f42.s2.lok (K : Nat) : LoopsOK Try.prog 25 0 (f42.lp K) f42.s2.b := loops_ok (by
  have h : loopsIn (f42.lp K) f42.s2.b = [] := by kernel_rfl
  rw [h]; simp)
theorem f42.s2.ok (K : Nat) : SummOK Try.prog 25 0 (summOf (iter (f42.s2 K) K) f42.s2.inX f42.s2.out) f42.s2.h f42.s2.b := by
  exact loop_ok mix tys_ok (f42.tabOK K) (h := f42.s2.h) (ho := f42.s2.ho) (shp := f42.s2.shp) (inX := f42.s2.inX) (out := f42.s2.out) (inY := f42.s2.inY) (fuel := 400)
    (by intro st x h; unfold f42.s2.inX at h; split at h <;> simp at h; subst h; rfl)
    (by intro e st y h; unfold f42.s2.inY at h; split at h <;> simp at h <;> subst h <;> rfl)
    (f42.s2.lok K) (f42.s2 K) (f42.s2.eq K) K
theorem f42.s0.lok (K : Nat) : LoopsOK Try.prog 25 0 (f42.lp K) f42.s0.b := loops_ok (by
  have h : loopsIn (f42.lp K) f42.s0.b = [(2, f42.s2.b)] := by kernel_rfl
  rw [h]
  intro p hp
  simp only [List.mem_cons, List.not_mem_nil, or_false] at hp
  rcases hp with rfl
  · exact ⟨_, rfl, f42.s2.ok K⟩)
theorem f42.s0.ok (K : Nat) : SummOK Try.prog 25 0 (summOf (iter (f42.s0 K) K) f42.s0.inX f42.s0.out) f42.s0.h f42.s0.b := by
  exact loop_ok mix tys_ok (f42.tabOK K) (h := f42.s0.h) (ho := f42.s0.ho) (shp := f42.s0.shp) (inX := f42.s0.inX) (out := f42.s0.out) (inY := f42.s0.inY) (fuel := 400)
    (by intro st x h; unfold f42.s0.inX at h; split at h <;> simp at h; subst h; rfl)
    (by intro e st y h; unfold f42.s0.inY at h; split at h <;> simp at h <;> subst h <;> rfl)
    (f42.s0.lok K) (f42.s0 K) (f42.s0.eq K) K
theorem f42.loops (K : Nat) : LoopsOK Try.prog 25 0 (f42.lp K) f42.c := loops_ok (by
  have h : loopsIn (f42.lp K) f42.c = [(0, f42.s0.b)] := by kernel_rfl
  rw [h]
  intro p hp
  simp only [List.mem_cons, List.not_mem_nil, or_false] at hp
  rcases hp with rfl
  · exact ⟨_, rfl, f42.s0.ok K⟩)
def f42.T (K : Nat) (a0 : List Int) : Option (Int) :=
  (f92.F K a0).bind fun y1 =>
  (iter (f42.s0 K) K (0, y1, 0)).bind fun y32 =>
  some y32
def f42.F (K : Nat) (x : List Int) : Option (Int) := f42.T K x
def f42.mk (y : Int) : VV := .int .i64 y
def f42.inA : List VV → Option (List Int)
  | [.agg [.ints .u64 4 a0]] => some a0
  | _ => none
def f42.shp (x : List Int) : List VV := [.agg [.ints .u64 4 x]]
def f42.inR : VV → Option (Int)
  | .int .i64 y => some y
  | _ => none
noncomputable def f42.E (K : Nat) : Entry := pureE f42.inA (f42.F K) f42.mk
theorem f42.eq (K : Nat) (x : List Int) : f42.F K x = xrun (getA tys) (tabSp (f42.tab K)) Try.f42.ntmps 0 (f42.lp K) 400 f42.c ⟨initL 0 (f42.shp x), [], 0⟩ (contF (getA tys) Try.f42.results.toList fun v _ => f42.inR v) := by kernel_rfl
theorem f42.ok (K : Nat) : EntryOK Try.prog 42 (f42.E K) :=
  pure_ok mix tys_ok (f42.tabOK K) Try.func42 (by kernel_rfl : Try.f42.body = some f42.c) (by kernel_rfl) (f42.loops K) (shp := f42.shp) (fuel := 400)
    (by intro vs x h; unfold f42.inA at h; split at h <;> simp at h; subst h; rfl) (by intro v y h; unfold f42.inR at h; split at h <;> simp at h; subst h; exact ⟨rfl, rfl⟩)
    (by intro x; exact ⟨Nat.le_of_ble_eq_true rfl, rfl⟩) (f42.eq K)
end Go.Proofs
