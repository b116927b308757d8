/- Go functions: for each a Lean function with the same answers, and the proof that the call comes to them. -/
import Derived.Test.YtjkelipglcnpmaaVma
import Derived.Test.YtjkelipglcnpmaaProg
import Derived.KernelRfl
namespace Go.Proofs
open Go.VM
theorem mix : Try.prog.follows .mixedOrders = true := by kernel_rfl
noncomputable def bodyOf (f : Func) : Code := f.body.getD .skip
def ti3 : TI := ⟨1, (Go.TypeDesc.int Go.IntKind.i64), [.int .i64 0], 0, [], false⟩
theorem ty3 : TyOK Try.prog 3 ti3 := ⟨by kernel_rfl, by kernel_rfl, rfl, rfl, trivial, trivial, fun h => by cases h⟩
def ti4 : TI := ⟨1, Go.TypeDesc.bool, [.bool false], 0, [], false⟩
theorem ty4 : TyOK Try.prog 4 ti4 := ⟨by kernel_rfl, by kernel_rfl, rfl, rfl, trivial, trivial, fun h => by cases h⟩
def ti5 : TI := ⟨1, (Go.TypeDesc.int Go.IntKind.u8), [.int .u8 0], 0, [], false⟩
theorem ty5 : TyOK Try.prog 5 ti5 := ⟨by kernel_rfl, by kernel_rfl, rfl, rfl, trivial, trivial, fun h => by cases h⟩
def ti22 : TI := ⟨1, (Go.TypeDesc.int Go.IntKind.u64), [.int .u64 0], 0, [], false⟩
theorem ty22 : TyOK Try.prog 22 ti22 := ⟨by kernel_rfl, by kernel_rfl, rfl, rfl, trivial, trivial, fun h => by cases h⟩
def ti24 : TI := ⟨4, .array 4 22, [.ints .u64 4 [0, 0, 0, 0]], 1, [], true⟩
theorem ty24 : TyOK Try.prog 24 ti24 := ⟨by kernel_rfl, by kernel_rfl, rfl, rfl, by show _ = _; kernel_rfl, trivial, fun _ => eqs_arr (e := 22) (by kernel_rfl) (by kernel_rfl) ⟨.u64, by kernel_rfl⟩ (by kernel_rfl)⟩
def ti30 : TI := ⟨1, (Go.TypeDesc.int Go.IntKind.u64), [.int .u64 0], 0, [], false⟩
theorem ty30 : TyOK Try.prog 30 ti30 := ⟨by kernel_rfl, by kernel_rfl, rfl, rfl, trivial, trivial, fun h => by cases h⟩
def ti78 : TI := ⟨8, .array 8 22, [.ints .u64 8 [0, 0, 0, 0, 0, 0, 0, 0]], 1, [], true⟩
theorem ty78 : TyOK Try.prog 78 ti78 := ⟨by kernel_rfl, by kernel_rfl, rfl, rfl, by show _ = _; kernel_rfl, trivial, fun _ => eqs_arr (e := 22) (by kernel_rfl) (by kernel_rfl) ⟨.u64, by kernel_rfl⟩ (by kernel_rfl)⟩
def ti80 : TI := ⟨16, .array 2 78, [.ints .u64 16 [0, 0, 0, 0, 0, 0, 0, 0, 0, 0, 0, 0, 0, 0, 0, 0]], 8, [], false⟩
theorem ty80 : TyOK Try.prog 80 ti80 := ⟨by kernel_rfl, by kernel_rfl, rfl, rfl, by show _ = _; kernel_rfl, trivial, fun h => by cases h⟩
def ti83 : TI := ⟨2, .array 2 22, [.ints .u64 2 [0, 0]], 1, [], true⟩
theorem ty83 : TyOK Try.prog 83 ti83 := ⟨by kernel_rfl, by kernel_rfl, rfl, rfl, by show _ = _; kernel_rfl, trivial, fun _ => eqs_arr (e := 22) (by kernel_rfl) (by kernel_rfl) ⟨.u64, by kernel_rfl⟩ (by kernel_rfl)⟩
def tys : Tab := [(3, ti3), (4, ti4), (5, ti5), (22, ti22), (24, ti24), (30, ti30), (78, ti78), (80, ti80), (83, ti83)]
theorem tys_ok : TyAll Try.prog (getA tys) := tyAll_of (by
  intro p hp
  simp only [tys, List.mem_cons, List.not_mem_nil, or_false] at hp
  rcases hp with rfl | rfl | rfl | rfl | rfl | rfl | rfl | rfl | rfl
  · exact ty3
  · exact ty4
  · exact ty5
  · exact ty22
  · exact ty24
  · exact ty30
  · exact ty78
  · exact ty80
  · exact ty83)
end Go.Proofs

namespace Go.Proofs
open Go.VM
/-! ### burrow/limbs.apart -/
noncomputable def f92.c : Code := bodyOf Try.f92
def f92.lp (_ : Nat) : Nat → Option (Hint × Summ) := fun _ => none
noncomputable def f92.tab (_K : Nat) : List (Nat × Entry) := []
theorem f92.tabOK (K : Nat) : SpecOK Try.prog (tabSp (f92.tab K)) := tab_ok tab_nil
theorem f92.loops (K : Nat) : LoopsOK Try.prog 20 0 (f92.lp K) f92.c := loops_ok (by
  have h : loopsIn (f92.lp K) f92.c = [] := by kernel_rfl
  rw [h]; simp)
def f92.T (_K : Nat) (a0 : List Int) : Option (List Int) :=
  some ([(bits .and .u64 (Int.fdiv (List.getD a0 0 0) (2 ^ 0)) 4294967295), (bits .and .u64 (Int.fdiv (List.getD a0 0 0) (2 ^ 32)) 4294967295), (bits .and .u64 (Int.fdiv (List.getD a0 1 0) (2 ^ 0)) 4294967295), (bits .and .u64 (Int.fdiv (List.getD a0 1 0) (2 ^ 32)) 4294967295), (bits .and .u64 (Int.fdiv (List.getD a0 2 0) (2 ^ 0)) 4294967295), (bits .and .u64 (Int.fdiv (List.getD a0 2 0) (2 ^ 32)) 4294967295), (bits .and .u64 (Int.fdiv (List.getD a0 3 0) (2 ^ 0)) 4294967295), (bits .and .u64 (Int.fdiv (List.getD a0 3 0) (2 ^ 32)) 4294967295)])
def f92.F (K : Nat) (x : List Int) : Option (List Int) := f92.T K x
def f92.mk (y : List Int) : VV := .agg [.ints .u64 8 y]
def f92.inA : List VV → Option (List Int)
  | [.agg [.ints .u64 4 a0]] => some a0
  | _ => none
def f92.shp (x : List Int) : List VV := [.agg [.ints .u64 4 x]]
def f92.inR : VV → Option (List Int)
  | .agg [.ints .u64 8 y] => some y
  | _ => none
noncomputable def f92.E (K : Nat) : Entry := pureE f92.inA (f92.F K) f92.mk
theorem f92.eq (K : Nat) (x : List Int) : f92.F K x = xrun (getA tys) (tabSp (f92.tab K)) Try.f92.ntmps 0 (f92.lp K) 400 f92.c ⟨initL 0 (f92.shp x), [], 0⟩ (contF (getA tys) Try.f92.results.toList fun v _ => f92.inR v) := by kernel_rfl
theorem f92.ok (K : Nat) : EntryOK Try.prog 92 (f92.E K) :=
  pure_ok mix tys_ok (f92.tabOK K) Try.func92 (by kernel_rfl : Try.f92.body = some f92.c) (by kernel_rfl) (f92.loops K) (shp := f92.shp) (fuel := 400)
    (by intro vs x h; unfold f92.inA at h; split at h <;> simp at h; subst h; rfl) (by intro v y h; unfold f92.inR at h; split at h <;> simp at h; subst h; exact ⟨rfl, rfl⟩)
    (by intro x; exact ⟨Nat.le_of_ble_eq_true rfl, rfl⟩) (f92.eq K)
end Go.Proofs

namespace Go.Proofs
open Go.VM
/-! ### (burrow/limbs.halves).whole -/
noncomputable def f93.c : Code := bodyOf Try.f93
def f93.lp (_ : Nat) : Nat → Option (Hint × Summ) := fun _ => none
noncomputable def f93.tab (_K : Nat) : List (Nat × Entry) := []
theorem f93.tabOK (K : Nat) : SpecOK Try.prog (tabSp (f93.tab K)) := tab_ok tab_nil
theorem f93.loops (K : Nat) : LoopsOK Try.prog 22 0 (f93.lp K) f93.c := loops_ok (by
  have h : loopsIn (f93.lp K) f93.c = [] := by kernel_rfl
  rw [h]; simp)
def f93.T (_K : Nat) (a0 : List Int) : Option (List Int) :=
  some ([(bits .or .u64 (IntKind.wrap .u64 ((List.getD a0 1 0) * 2 ^ 32)) (List.getD a0 0 0)), (bits .or .u64 (IntKind.wrap .u64 ((List.getD a0 3 0) * 2 ^ 32)) (List.getD a0 2 0)), (bits .or .u64 (IntKind.wrap .u64 ((List.getD a0 5 0) * 2 ^ 32)) (List.getD a0 4 0)), (bits .or .u64 (IntKind.wrap .u64 ((List.getD a0 7 0) * 2 ^ 32)) (List.getD a0 6 0))])
def f93.F (K : Nat) (x : List Int) : Option (List Int) := f93.T K x
def f93.mk (y : List Int) : VV := .agg [.ints .u64 4 y]
def f93.inA : List VV → Option (List Int)
  | [.agg [.ints .u64 8 a0]] => some a0
  | _ => none
def f93.shp (x : List Int) : List VV := [.agg [.ints .u64 8 x]]
def f93.inR : VV → Option (List Int)
  | .agg [.ints .u64 4 y] => some y
  | _ => none
noncomputable def f93.E (K : Nat) : Entry := pureE f93.inA (f93.F K) f93.mk
theorem f93.eq (K : Nat) (x : List Int) : f93.F K x = xrun (getA tys) (tabSp (f93.tab K)) Try.f93.ntmps 0 (f93.lp K) 400 f93.c ⟨initL 0 (f93.shp x), [], 0⟩ (contF (getA tys) Try.f93.results.toList fun v _ => f93.inR v) := by kernel_rfl
theorem f93.ok (K : Nat) : EntryOK Try.prog 93 (f93.E K) :=
  pure_ok mix tys_ok (f93.tabOK K) Try.func93 (by kernel_rfl : Try.f93.body = some f93.c) (by kernel_rfl) (f93.loops K) (shp := f93.shp) (fuel := 400)
    (by intro vs x h; unfold f93.inA at h; split at h <;> simp at h; subst h; rfl) (by intro v y h; unfold f93.inR at h; split at h <;> simp at h; subst h; exact ⟨rfl, rfl⟩)
    (by intro x; exact ⟨Nat.le_of_ble_eq_true rfl, rfl⟩) (f93.eq K)
end Go.Proofs

namespace Go.Proofs
open Go.VM
/-! ### burrow/limbs.Add -/
noncomputable def f32.c : Code := bodyOf Try.f32
def f32.s0t (_K : Nat) (rec : Int × Int × List Int × List Int × List Int → Option (Int × List Int × List Int)) (t8 : Int) (t14 : Int) (b2 : List Int) (b3 : List Int) (b4 : List Int) : Option (Int × List Int × List Int) :=
  bif (decide (t14 < 8)) then
    bif decide (0 ≤ t14 ∧ t14 < 8) then
      bif decide (0 ≤ t14 ∧ t14 < 8) then
        let v25 := IntKind.wrap .u64 (t8 + (IntKind.wrap .u64 ((List.getD b3 (Int.toNat t14) 0) + (List.getD b4 (Int.toNat t14) 0))))
        bif decide (0 ≤ t14 ∧ t14 < 8) then
          rec ((Int.fdiv v25 (2 ^ 32)), (IntKind.wrap .i64 (t14 + 1)), b2, (setD b3 (Int.toNat t14) (bits .and .u64 v25 4294967295)), b4)
        else
          none
      else
        none
    else
      none
  else
    some (t8, b2, b3)
def f32.s0 (K : Nat) (rec : Int × Int × List Int × List Int × List Int → Option (Int × List Int × List Int)) (x : Int × Int × List Int × List Int × List Int) : Option (Int × List Int × List Int) := f32.s0t K rec x.1 x.2.1 x.2.2.1 x.2.2.2.1 x.2.2.2.2
noncomputable def f32.s0.b : Code := (findLoop 0 f32.c).getD .skip
def f32.s0.h : Hint := ⟨[4, 6, 7, 8, 14], [2, 3, 4], 5⟩
def f32.s0.ho : Hint := ⟨[4, 6, 8], [2, 3], 5⟩
def f32.s0.shp (x : Int × Int × List Int × List Int × List Int) : VS := ⟨[(4, .ptr 2 0), (6, .ptr 3 0), (7, .ptr 4 0), (8, .int .u64 x.1), (14, .int .i64 x.2.1)], [(2, ([.ints .u64 4 x.2.2.1], 24)), (3, ([.ints .u64 8 x.2.2.2.1], 78)), (4, ([.ints .u64 8 x.2.2.2.2], 78))], 5⟩
def f32.s0.inX : VS → Option (Int × Int × List Int × List Int × List Int)
  | ⟨[(4, .ptr 2 0), (6, .ptr 3 0), (7, .ptr 4 0), (8, .int .u64 t8), (14, .int .i64 t14)], [(2, ([.ints .u64 4 b2], 24)), (3, ([.ints .u64 8 b3], 78)), (4, ([.ints .u64 8 b4], 78))], 5⟩ => some (t8, t14, b2, b3, b4)
  | _ => none
def f32.s0.out (y : Int × List Int × List Int) : Ex × VS := (.exit 0, ⟨[(4, .ptr 2 0), (6, .ptr 3 0), (8, .int .u64 y.1)], [(2, ([.ints .u64 4 y.2.1], 24)), (3, ([.ints .u64 8 y.2.2], 78))], 5⟩)
def f32.s0.inY : Ex → VS → Option (Int × List Int × List Int)
  | .exit 0, ⟨[(4, .ptr 2 0), (6, .ptr 3 0), (8, .int .u64 t8)], [(2, ([.ints .u64 4 b2], 24)), (3, ([.ints .u64 8 b3], 78))], 5⟩ => some (t8, b2, b3)
  | _, _ => none
def f32.lp (K : Nat) : Nat → Option (Hint × Summ) := tabLp [(0, f32.s0.h, summOf (iter (f32.s0 K) K) f32.s0.inX f32.s0.out)]
noncomputable def f32.tab (K : Nat) : List (Nat × Entry) := [(92, f92.E K), (93, f93.E K)]
theorem f32.tabOK (K : Nat) : SpecOK Try.prog (tabSp (f32.tab K)) := tab_ok ((tab_cons (f92.ok K) (tab_cons (f93.ok K) tab_nil)))
theorem f32.s0.eq (K : Nat) (rec : Int × Int × List Int × List Int × List Int → Option (Int × List Int × List Int)) (x : Int × Int × List Int × List Int × List Int) : f32.s0 K rec x = roundL (getA tys) (tabSp (f32.tab K)) 36 0 (f32.lp K) 400 f32.s0.b f32.s0.h f32.s0.ho f32.s0.shp f32.s0.inX f32.s0.inY rec x := by kernel_rfl
theorem f32.s0.lok (K : Nat) : LoopsOK Try.prog 36 0 (f32.lp K) f32.s0.b := loops_ok (by
  have h : loopsIn (f32.lp K) f32.s0.b = [] := by kernel_rfl
  rw [h]; simp)
theorem f32.s0.ok (K : Nat) : SummOK Try.prog 36 0 (summOf (iter (f32.s0 K) K) f32.s0.inX f32.s0.out) f32.s0.h f32.s0.b := by
  exact loop_ok mix tys_ok (f32.tabOK K) (h := f32.s0.h) (ho := f32.s0.ho) (shp := f32.s0.shp) (inX := f32.s0.inX) (out := f32.s0.out) (inY := f32.s0.inY) (fuel := 400)
    (by intro st x h; unfold f32.s0.inX at h; split at h <;> simp at h; subst h; rfl)
    (by intro e st y h; unfold f32.s0.inY at h; split at h <;> simp at h <;> subst h <;> rfl)
    (f32.s0.lok K) (f32.s0 K) (f32.s0.eq K) K
theorem f32.loops (K : Nat) : LoopsOK Try.prog 36 0 (f32.lp K) f32.c := loops_ok (by
  have h : loopsIn (f32.lp K) f32.c = [(0, f32.s0.b)] := by kernel_rfl
  rw [h]
  intro p hp
  simp only [List.mem_cons, List.not_mem_nil, or_false] at hp
  rcases hp with rfl
  · exact ⟨_, rfl, f32.s0.ok K⟩)
def f32.T (K : Nat) (a0 : List Int) (a1 : List Int) : Option (List Int × Int) :=
  (f92.F K a0).bind fun y1 =>
  (f92.F K a1).bind fun y2 =>
  (iter (f32.s0 K) K (0, 0, [0, 0, 0, 0], y1, y2)).bind fun y30 =>
  (f93.F K y30.2.2).bind fun y31 =>
  some (y31, y30.1)
def f32.F (K : Nat) (x : List Int × List Int) : Option (List Int × Int) := f32.T K x.1 x.2
def f32.mk (y : List Int × Int) : VV := .tup [.agg [.ints .u64 4 y.1], .int .u64 y.2]
def f32.inA : List VV → Option (List Int × List Int)
  | [.agg [.ints .u64 4 a0], .agg [.ints .u64 4 a1]] => some (a0, a1)
  | _ => none
def f32.shp (x : List Int × List Int) : List VV := [.agg [.ints .u64 4 x.1], .agg [.ints .u64 4 x.2]]
def f32.inR : VV → Option (List Int × Int)
  | .tup [.agg [.ints .u64 4 y0], .int .u64 y1] => some (y0, y1)
  | _ => none
noncomputable def f32.E (K : Nat) : Entry := pureE f32.inA (f32.F K) f32.mk
theorem f32.eq (K : Nat) (x : List Int × List Int) : f32.F K x = xrun (getA tys) (tabSp (f32.tab K)) Try.f32.ntmps 0 (f32.lp K) 400 f32.c ⟨initL 0 (f32.shp x), [], 0⟩ (contF (getA tys) Try.f32.results.toList fun v _ => f32.inR v) := by kernel_rfl
theorem f32.ok (K : Nat) : EntryOK Try.prog 32 (f32.E K) :=
  pure_ok mix tys_ok (f32.tabOK K) Try.func32 (by kernel_rfl : Try.f32.body = some f32.c) (by kernel_rfl) (f32.loops K) (shp := f32.shp) (fuel := 400)
    (by intro vs x h; unfold f32.inA at h; split at h <;> simp at h; subst h; rfl) (by intro v y h; unfold f32.inR at h; split at h <;> simp at h; subst h; exact ⟨rfl, rfl⟩)
    (by intro x; exact ⟨Nat.le_of_ble_eq_true rfl, rfl⟩) (f32.eq K)
end Go.Proofs

namespace Go.Proofs
open Go.VM
/-! ### burrow/limbs.Sub -/
noncomputable def f34.c : Code := bodyOf Try.f34
def f34.s0t (_K : Nat) (rec : Int × Int × List Int × List Int × List Int → Option (Int × List Int × List Int)) (t8 : Int) (t14 : Int) (b2 : List Int) (b3 : List Int) (b4 : List Int) : Option (Int × List Int × List Int) :=
  bif (decide (t14 < 8)) then
    bif decide (0 ≤ t14 ∧ t14 < 8) then
      bif decide (0 ≤ t14 ∧ t14 < 8) then
        let v28 := IntKind.wrap .u64 (t8 + (IntKind.wrap .u64 ((List.getD b3 (Int.toNat t14) 0) + (IntKind.wrap .u64 (4294967295 - (List.getD b4 (Int.toNat t14) 0))))))
        bif decide (0 ≤ t14 ∧ t14 < 8) then
          rec ((Int.fdiv v28 (2 ^ 32)), (IntKind.wrap .i64 (t14 + 1)), b2, (setD b3 (Int.toNat t14) (bits .and .u64 v28 4294967295)), b4)
        else
          none
      else
        none
    else
      none
  else
    some (t8, b2, b3)
def f34.s0 (K : Nat) (rec : Int × Int × List Int × List Int × List Int → Option (Int × List Int × List Int)) (x : Int × Int × List Int × List Int × List Int) : Option (Int × List Int × List Int) := f34.s0t K rec x.1 x.2.1 x.2.2.1 x.2.2.2.1 x.2.2.2.2
noncomputable def f34.s0.b : Code := (findLoop 0 f34.c).getD .skip
def f34.s0.h : Hint := ⟨[4, 6, 7, 8, 14], [2, 3, 4], 5⟩
def f34.s0.ho : Hint := ⟨[4, 6, 8], [2, 3], 5⟩
def f34.s0.shp (x : Int × Int × List Int × List Int × List Int) : VS := ⟨[(4, .ptr 2 0), (6, .ptr 3 0), (7, .ptr 4 0), (8, .int .u64 x.1), (14, .int .i64 x.2.1)], [(2, ([.ints .u64 4 x.2.2.1], 24)), (3, ([.ints .u64 8 x.2.2.2.1], 78)), (4, ([.ints .u64 8 x.2.2.2.2], 78))], 5⟩
def f34.s0.inX : VS → Option (Int × Int × List Int × List Int × List Int)
  | ⟨[(4, .ptr 2 0), (6, .ptr 3 0), (7, .ptr 4 0), (8, .int .u64 t8), (14, .int .i64 t14)], [(2, ([.ints .u64 4 b2], 24)), (3, ([.ints .u64 8 b3], 78)), (4, ([.ints .u64 8 b4], 78))], 5⟩ => some (t8, t14, b2, b3, b4)
  | _ => none
def f34.s0.out (y : Int × List Int × List Int) : Ex × VS := (.exit 0, ⟨[(4, .ptr 2 0), (6, .ptr 3 0), (8, .int .u64 y.1)], [(2, ([.ints .u64 4 y.2.1], 24)), (3, ([.ints .u64 8 y.2.2], 78))], 5⟩)
def f34.s0.inY : Ex → VS → Option (Int × List Int × List Int)
  | .exit 0, ⟨[(4, .ptr 2 0), (6, .ptr 3 0), (8, .int .u64 t8)], [(2, ([.ints .u64 4 b2], 24)), (3, ([.ints .u64 8 b3], 78))], 5⟩ => some (t8, b2, b3)
  | _, _ => none
def f34.lp (K : Nat) : Nat → Option (Hint × Summ) := tabLp [(0, f34.s0.h, summOf (iter (f34.s0 K) K) f34.s0.inX f34.s0.out)]
noncomputable def f34.tab (K : Nat) : List (Nat × Entry) := [(92, f92.E K), (93, f93.E K)]
theorem f34.tabOK (K : Nat) : SpecOK Try.prog (tabSp (f34.tab K)) := tab_ok ((tab_cons (f92.ok K) (tab_cons (f93.ok K) tab_nil)))
theorem f34.s0.eq (K : Nat) (rec : Int × Int × List Int × List Int × List Int → Option (Int × List Int × List Int)) (x : Int × Int × List Int × List Int × List Int) : f34.s0 K rec x = roundL (getA tys) (tabSp (f34.tab K)) 38 0 (f34.lp K) 400 f34.s0.b f34.s0.h f34.s0.ho f34.s0.shp f34.s0.inX f34.s0.inY rec x := by kernel_rfl
theorem f34.s0.lok (K : Nat) : LoopsOK Try.prog 38 0 (f34.lp K) f34.s0.b := loops_ok (by
  have h : loopsIn (f34.lp K) f34.s0.b = [] := by kernel_rfl
  rw [h]; simp)
theorem f34.s0.ok (K : Nat) : SummOK Try.prog 38 0 (summOf (iter (f34.s0 K) K) f34.s0.inX f34.s0.out) f34.s0.h f34.s0.b := by
  exact loop_ok mix tys_ok (f34.tabOK K) (h := f34.s0.h) (ho := f34.s0.ho) (shp := f34.s0.shp) (inX := f34.s0.inX) (out := f34.s0.out) (inY := f34.s0.inY) (fuel := 400)
    (by intro st x h; unfold f34.s0.inX at h; split at h <;> simp at h; subst h; rfl)
    (by intro e st y h; unfold f34.s0.inY at h; split at h <;> simp at h <;> subst h <;> rfl)
    (f34.s0.lok K) (f34.s0 K) (f34.s0.eq K) K
theorem f34.loops (K : Nat) : LoopsOK Try.prog 38 0 (f34.lp K) f34.c := loops_ok (by
  have h : loopsIn (f34.lp K) f34.c = [(0, f34.s0.b)] := by kernel_rfl
  rw [h]
  intro p hp
  simp only [List.mem_cons, List.not_mem_nil, or_false] at hp
  rcases hp with rfl
  · exact ⟨_, rfl, f34.s0.ok K⟩)
def f34.T (K : Nat) (a0 : List Int) (a1 : List Int) : Option (List Int × Int) :=
  (f92.F K a0).bind fun y1 =>
  (f92.F K a1).bind fun y2 =>
  (iter (f34.s0 K) K (1, 0, [0, 0, 0, 0], y1, y2)).bind fun y33 =>
  (f93.F K y33.2.2).bind fun y34 =>
  some (y34, (IntKind.wrap .u64 (1 - y33.1)))
def f34.F (K : Nat) (x : List Int × List Int) : Option (List Int × Int) := f34.T K x.1 x.2
def f34.mk (y : List Int × Int) : VV := .tup [.agg [.ints .u64 4 y.1], .int .u64 y.2]
def f34.inA : List VV → Option (List Int × List Int)
  | [.agg [.ints .u64 4 a0], .agg [.ints .u64 4 a1]] => some (a0, a1)
  | _ => none
def f34.shp (x : List Int × List Int) : List VV := [.agg [.ints .u64 4 x.1], .agg [.ints .u64 4 x.2]]
def f34.inR : VV → Option (List Int × Int)
  | .tup [.agg [.ints .u64 4 y0], .int .u64 y1] => some (y0, y1)
  | _ => none
noncomputable def f34.E (K : Nat) : Entry := pureE f34.inA (f34.F K) f34.mk
theorem f34.eq (K : Nat) (x : List Int × List Int) : f34.F K x = xrun (getA tys) (tabSp (f34.tab K)) Try.f34.ntmps 0 (f34.lp K) 400 f34.c ⟨initL 0 (f34.shp x), [], 0⟩ (contF (getA tys) Try.f34.results.toList fun v _ => f34.inR v) := by kernel_rfl
theorem f34.ok (K : Nat) : EntryOK Try.prog 34 (f34.E K) :=
  pure_ok mix tys_ok (f34.tabOK K) Try.func34 (by kernel_rfl : Try.f34.body = some f34.c) (by kernel_rfl) (f34.loops K) (shp := f34.shp) (fuel := 400)
    (by intro vs x h; unfold f34.inA at h; split at h <;> simp at h; subst h; rfl) (by intro v y h; unfold f34.inR at h; split at h <;> simp at h; subst h; exact ⟨rfl, rfl⟩)
    (by intro x; exact ⟨Nat.le_of_ble_eq_true rfl, rfl⟩) (f34.eq K)
end Go.Proofs

namespace Go.Proofs
open Go.VM
/-! ### burrow/limbs.Of -/
noncomputable def f46.c : Code := bodyOf Try.f46
def f46.lp (_ : Nat) : Nat → Option (Hint × Summ) := fun _ => none
noncomputable def f46.tab (_K : Nat) : List (Nat × Entry) := []
theorem f46.tabOK (K : Nat) : SpecOK Try.prog (tabSp (f46.tab K)) := tab_ok tab_nil
theorem f46.loops (K : Nat) : LoopsOK Try.prog 6 0 (f46.lp K) f46.c := loops_ok (by
  have h : loopsIn (f46.lp K) f46.c = [] := by kernel_rfl
  rw [h]; simp)
def f46.T (_K : Nat) (a0 : Int) : Option (List Int) :=
  some ([a0, 0, 0, 0])
def f46.F (K : Nat) (x : Int) : Option (List Int) := f46.T K x
def f46.mk (y : List Int) : VV := .agg [.ints .u64 4 y]
def f46.inA : List VV → Option (Int)
  | [.int .u64 a0] => some a0
  | _ => none
def f46.shp (x : Int) : List VV := [.int .u64 x]
def f46.inR : VV → Option (List Int)
  | .agg [.ints .u64 4 y] => some y
  | _ => none
noncomputable def f46.E (K : Nat) : Entry := pureE f46.inA (f46.F K) f46.mk
theorem f46.eq (K : Nat) (x : Int) : f46.F K x = xrun (getA tys) (tabSp (f46.tab K)) Try.f46.ntmps 0 (f46.lp K) 400 f46.c ⟨initL 0 (f46.shp x), [], 0⟩ (contF (getA tys) Try.f46.results.toList fun v _ => f46.inR v) := by kernel_rfl
theorem f46.ok (K : Nat) : EntryOK Try.prog 46 (f46.E K) :=
  pure_ok mix tys_ok (f46.tabOK K) Try.func46 (by kernel_rfl : Try.f46.body = some f46.c) (by kernel_rfl) (f46.loops K) (shp := f46.shp) (fuel := 400)
    (by intro vs x h; unfold f46.inA at h; split at h <;> simp at h; subst h; rfl) (by intro v y h; unfold f46.inR at h; split at h <;> simp at h; subst h; exact ⟨rfl, rfl⟩)
    (by intro x; exact ⟨Nat.le_of_ble_eq_true rfl, rfl⟩) (f46.eq K)
end Go.Proofs

namespace Go.Proofs
open Go.VM
/-! ### burrow/limbs.Bit -/
noncomputable def f40.c : Code := bodyOf Try.f40
def f40.lp (_ : Nat) : Nat → Option (Hint × Summ) := fun _ => none
noncomputable def f40.tab (K : Nat) : List (Nat × Entry) := [(92, f92.E K)]
theorem f40.tabOK (K : Nat) : SpecOK Try.prog (tabSp (f40.tab K)) := tab_ok ((tab_cons (f92.ok K) tab_nil))
theorem f40.loops (K : Nat) : LoopsOK Try.prog 17 0 (f40.lp K) f40.c := loops_ok (by
  have h : loopsIn (f40.lp K) f40.c = [] := by kernel_rfl
  rw [h]; simp)
def f40.T (K : Nat) (a0 : List Int) (a1 : Int) : Option (Int) :=
  bif (decide ((IntKind.wrap .u64 a1) ≥ 256)) then
    some (0)
  else
    (f92.F K a0).bind fun y3 =>
    let v4 := IntKind.wrap .i64 (Int.tdiv a1 32)
    bif decide (0 ≤ v4 ∧ v4 < 8) then
      let v6 := Int.tmod a1 32
      bif decide (0 ≤ v6) then
        some (bits .and .u64 (shiftI .shr .u64 (List.getD y3 (Int.toNat v4) 0) v6) 1)
      else
        none
    else
      none
def f40.F (K : Nat) (x : List Int × Int) : Option (Int) := f40.T K x.1 x.2
def f40.mk (y : Int) : VV := .int .u64 y
def f40.inA : List VV → Option (List Int × Int)
  | [.agg [.ints .u64 4 a0], .int .i64 a1] => some (a0, a1)
  | _ => none
def f40.shp (x : List Int × Int) : List VV := [.agg [.ints .u64 4 x.1], .int .i64 x.2]
def f40.inR : VV → Option (Int)
  | .int .u64 y => some y
  | _ => none
noncomputable def f40.E (K : Nat) : Entry := pureE f40.inA (f40.F K) f40.mk
theorem f40.eq (K : Nat) (x : List Int × Int) : f40.F K x = xrun (getA tys) (tabSp (f40.tab K)) Try.f40.ntmps 0 (f40.lp K) 400 f40.c ⟨initL 0 (f40.shp x), [], 0⟩ (contF (getA tys) Try.f40.results.toList fun v _ => f40.inR v) := by kernel_rfl
theorem f40.ok (K : Nat) : EntryOK Try.prog 40 (f40.E K) :=
  pure_ok mix tys_ok (f40.tabOK K) Try.func40 (by kernel_rfl : Try.f40.body = some f40.c) (by kernel_rfl) (f40.loops K) (shp := f40.shp) (fuel := 400)
    (by intro vs x h; unfold f40.inA at h; split at h <;> simp at h; subst h; rfl) (by intro v y h; unfold f40.inR at h; split at h <;> simp at h; subst h; exact ⟨rfl, rfl⟩)
    (by intro x; exact ⟨Nat.le_of_ble_eq_true rfl, rfl⟩) (f40.eq K)
end Go.Proofs

namespace Go.Proofs
open Go.VM
/-! ### burrow/limbs.Bits -/
noncomputable def f42.c : Code := bodyOf Try.f42
def f42.s2t (_K : Nat) (rec : Int × Int × Int × Int × List Int × Int → Option (Int × List Int × Int)) (t2 : Int) (t3 : Int) (t4 : Int) (t5 : Int) (t7 : List Int) (t8 : Int) : Option (Int × List Int × Int) :=
  bif decide (0 ≤ t5) then
    bif (decide ((shiftI .shr .u64 t4 t5) > 0)) then
      rec ((IntKind.wrap .i64 ((IntKind.wrap .i64 ((IntKind.wrap .i64 (32 * t3)) + t5)) + 1)), t3, t4, (IntKind.wrap .i64 (t5 + 1)), t7, t8)
    else
      some (t2, t7, t8)
  else
    none
def f42.s2 (K : Nat) (rec : Int × Int × Int × Int × List Int × Int → Option (Int × List Int × Int)) (x : Int × Int × Int × Int × List Int × Int) : Option (Int × List Int × Int) := f42.s2t K rec x.1 x.2.1 x.2.2.1 x.2.2.2.1 x.2.2.2.2.1 x.2.2.2.2.2
noncomputable def f42.s2.b : Code := (findLoop 2 f42.c).getD .skip
def f42.s2.h : Hint := ⟨[2, 3, 4, 5, 7, 8], [], 1⟩
def f42.s2.ho : Hint := ⟨[2, 7, 8], [], 1⟩
def f42.s2.shp (x : Int × Int × Int × Int × List Int × Int) : VS := ⟨[(2, .int .i64 x.1), (3, .int .i64 x.2.1), (4, .int .u64 x.2.2.1), (5, .int .i64 x.2.2.2.1), (7, .agg [.ints .u64 8 x.2.2.2.2.1]), (8, .int .i64 x.2.2.2.2.2)], [], 1⟩
def f42.s2.inX : VS → Option (Int × Int × Int × Int × List Int × Int)
  | ⟨[(2, .int .i64 t2), (3, .int .i64 t3), (4, .int .u64 t4), (5, .int .i64 t5), (7, .agg [.ints .u64 8 t7]), (8, .int .i64 t8)], [], 1⟩ => some (t2, t3, t4, t5, t7, t8)
  | _ => none
def f42.s2.out (y : Int × List Int × Int) : Ex × VS := (.exit 2, ⟨[(2, .int .i64 y.1), (7, .agg [.ints .u64 8 y.2.1]), (8, .int .i64 y.2.2)], [], 1⟩)
def f42.s2.inY : Ex → VS → Option (Int × List Int × Int)
  | .exit 2, ⟨[(2, .int .i64 t2), (7, .agg [.ints .u64 8 t7]), (8, .int .i64 t8)], [], 1⟩ => some (t2, t7, t8)
  | _, _ => none
def f42.s0t (K : Nat) (rec : Int × List Int × Int → Option (Int)) (t2 : Int) (t7 : List Int) (t8 : Int) : Option (Int) :=
  bif (decide (t8 < 8)) then
    bif decide (0 ≤ t8 ∧ t8 < 8) then
      (iter (f42.s2 K) K (t2, t8, (List.getD t7 (Int.toNat t8) 0), 0, t7, t8)).bind fun y30 =>
      rec (y30.1, y30.2.1, (IntKind.wrap .i64 (y30.2.2 + 1)))
    else
      none
  else
    some t2
def f42.s0 (K : Nat) (rec : Int × List Int × Int → Option (Int)) (x : Int × List Int × Int) : Option (Int) := f42.s0t K rec x.1 x.2.1 x.2.2
noncomputable def f42.s0.b : Code := (findLoop 0 f42.c).getD .skip
def f42.s0.h : Hint := ⟨[2, 7, 8], [], 1⟩
def f42.s0.ho : Hint := ⟨[2], [], 1⟩
def f42.s0.shp (x : Int × List Int × Int) : VS := ⟨[(2, .int .i64 x.1), (7, .agg [.ints .u64 8 x.2.1]), (8, .int .i64 x.2.2)], [], 1⟩
def f42.s0.inX : VS → Option (Int × List Int × Int)
  | ⟨[(2, .int .i64 t2), (7, .agg [.ints .u64 8 t7]), (8, .int .i64 t8)], [], 1⟩ => some (t2, t7, t8)
  | _ => none
def f42.s0.out (y : Int) : Ex × VS := (.exit 0, ⟨[(2, .int .i64 y)], [], 1⟩)
def f42.s0.inY : Ex → VS → Option (Int)
  | .exit 0, ⟨[(2, .int .i64 t2)], [], 1⟩ => some t2
  | _, _ => none
def f42.lp (K : Nat) : Nat → Option (Hint × Summ) := tabLp [(2, f42.s2.h, summOf (iter (f42.s2 K) K) f42.s2.inX f42.s2.out), (0, f42.s0.h, summOf (iter (f42.s0 K) K) f42.s0.inX f42.s0.out)]
noncomputable def f42.tab (K : Nat) : List (Nat × Entry) := [(92, f92.E K)]
theorem f42.tabOK (K : Nat) : SpecOK Try.prog (tabSp (f42.tab K)) := tab_ok ((tab_cons (f92.ok K) tab_nil))
theorem f42.s2.eq (K : Nat) (rec : Int × Int × Int × Int × List Int × Int → Option (Int × List Int × Int)) (x : Int × Int × Int × Int × List Int × Int) : f42.s2 K rec x = roundL (getA tys) (tabSp (f42.tab K)) 25 0 (f42.lp K) 400 f42.s2.b f42.s2.h f42.s2.ho f42.s2.shp f42.s2.inX f42.s2.inY rec x := by kernel_rfl
theorem f42.s0.eq (K : Nat) (rec : Int × List Int × Int → Option (Int)) (x : Int × List Int × Int) : f42.s0 K rec x = roundL (getA tys) (tabSp (f42.tab K)) 25 0 (f42.lp K) 400 f42.s0.b f42.s0.h f42.s0.ho f42.s0.shp f42.s0.inX f42.s0.inY rec x := by kernel_rfl
theorem f42.s2.lok (K : Nat) : LoopsOK Try.prog 25 0 (f42.lp K) f42.s2.b := loops_ok (by
  have h : loopsIn (f42.lp K) f42.s2.b = [] := by kernel_rfl
  rw [h]; simp)
theorem f42.s2.ok (K : Nat) : SummOK Try.prog 25 0 (summOf (iter (f42.s2 K) K) f42.s2.inX f42.s2.out) f42.s2.h f42.s2.b := by
  exact loop_ok mix tys_ok (f42.tabOK K) (h := f42.s2.h) (ho := f42.s2.ho) (shp := f42.s2.shp) (inX := f42.s2.inX) (out := f42.s2.out) (inY := f42.s2.inY) (fuel := 400)
    (by intro st x h; unfold f42.s2.inX at h; split at h <;> simp at h; subst h; rfl)
    (by intro e st y h; unfold f42.s2.inY at h; split at h <;> simp at h <;> subst h <;> rfl)
    (f42.s2.lok K) (f42.s2 K) (f42.s2.eq K) K
theorem f42.s0.lok (K : Nat) : LoopsOK Try.prog 25 0 (f42.lp K) f42.s0.b := loops_ok (by
  have h : loopsIn (f42.lp K) f42.s0.b = [(2, f42.s2.b)] := by kernel_rfl
  rw [h]
  intro p hp
  simp only [List.mem_cons, List.not_mem_nil, or_false] at hp
  rcases hp with rfl
  · exact ⟨_, rfl, f42.s2.ok K⟩)
theorem f42.s0.ok (K : Nat) : SummOK Try.prog 25 0 (summOf (iter (f42.s0 K) K) f42.s0.inX f42.s0.out) f42.s0.h f42.s0.b := by
  exact loop_ok mix tys_ok (f42.tabOK K) (h := f42.s0.h) (ho := f42.s0.ho) (shp := f42.s0.shp) (inX := f42.s0.inX) (out := f42.s0.out) (inY := f42.s0.inY) (fuel := 400)
    (by intro st x h; unfold f42.s0.inX at h; split at h <;> simp at h; subst h; rfl)
    (by intro e st y h; unfold f42.s0.inY at h; split at h <;> simp at h <;> subst h <;> rfl)
    (f42.s0.lok K) (f42.s0 K) (f42.s0.eq K) K
theorem f42.loops (K : Nat) : LoopsOK Try.prog 25 0 (f42.lp K) f42.c := loops_ok (by
  have h : loopsIn (f42.lp K) f42.c = [(0, f42.s0.b)] := by kernel_rfl
  rw [h]
  intro p hp
  simp only [List.mem_cons, List.not_mem_nil, or_false] at hp
  rcases hp with rfl
  · exact ⟨_, rfl, f42.s0.ok K⟩)
def f42.T (K : Nat) (a0 : List Int) : Option (Int) :=
  (f92.F K a0).bind fun y1 =>
  (iter (f42.s0 K) K (0, y1, 0)).bind fun y32 =>
  some y32
def f42.F (K : Nat) (x : List Int) : Option (Int) := f42.T K x
def f42.mk (y : Int) : VV := .int .i64 y
def f42.inA : List VV → Option (List Int)
  | [.agg [.ints .u64 4 a0]] => some a0
  | _ => none
def f42.shp (x : List Int) : List VV := [.agg [.ints .u64 4 x]]
def f42.inR : VV → Option (Int)
  | .int .i64 y => some y
  | _ => none
noncomputable def f42.E (K : Nat) : Entry := pureE f42.inA (f42.F K) f42.mk
theorem f42.eq (K : Nat) (x : List Int) : f42.F K x = xrun (getA tys) (tabSp (f42.tab K)) Try.f42.ntmps 0 (f42.lp K) 400 f42.c ⟨initL 0 (f42.shp x), [], 0⟩ (contF (getA tys) Try.f42.results.toList fun v _ => f42.inR v) := by kernel_rfl
theorem f42.ok (K : Nat) : EntryOK Try.prog 42 (f42.E K) :=
  pure_ok mix tys_ok (f42.tabOK K) Try.func42 (by kernel_rfl : Try.f42.body = some f42.c) (by kernel_rfl) (f42.loops K) (shp := f42.shp) (fuel := 400)
    (by intro vs x h; unfold f42.inA at h; split at h <;> simp at h; subst h; rfl) (by intro v y h; unfold f42.inR at h; split at h <;> simp at h; subst h; exact ⟨rfl, rfl⟩)
    (by intro x; exact ⟨Nat.le_of_ble_eq_true rfl, rfl⟩) (f42.eq K)
end Go.Proofs

namespace Go.Proofs
open Go.VM
/-! ### burrow/limbs.Cmp -/
noncomputable def f44.c : Code := bodyOf Try.f44
def f44.s0t (_K : Nat) (rec : Int × List Int × List Int → Option (Int × List Int × List Int)) (t7 : Int) (b2 : List Int) (b3 : List Int) : Option (Int × List Int × List Int) :=
  bif decide (0 ≤ t7 ∧ t7 < 8) then
    bif decide (0 ≤ t7 ∧ t7 < 8) then
      bif ((List.getD b2 (Int.toNat t7) 0) == (List.getD b3 (Int.toNat t7) 0)) then
        rec ((IntKind.wrap .i64 (t7 - 1)), b2, b3)
      else
        some (t7, b2, b3)
    else
      none
  else
    none
def f44.s0 (K : Nat) (rec : Int × List Int × List Int → Option (Int × List Int × List Int)) (x : Int × List Int × List Int) : Option (Int × List Int × List Int) := f44.s0t K rec x.1 x.2.1 x.2.2
noncomputable def f44.s0.b : Code := (findLoop 0 f44.c).getD .skip
def f44.s0.h : Hint := ⟨[5, 6, 7], [2, 3], 4⟩
def f44.s0.ho : Hint := ⟨[5, 6, 7], [2, 3], 4⟩
def f44.s0.shp (x : Int × List Int × List Int) : VS := ⟨[(5, .ptr 2 0), (6, .ptr 3 0), (7, .int .i64 x.1)], [(2, ([.ints .u64 8 x.2.1], 78)), (3, ([.ints .u64 8 x.2.2], 78))], 4⟩
def f44.s0.inX : VS → Option (Int × List Int × List Int)
  | ⟨[(5, .ptr 2 0), (6, .ptr 3 0), (7, .int .i64 t7)], [(2, ([.ints .u64 8 b2], 78)), (3, ([.ints .u64 8 b3], 78))], 4⟩ => some (t7, b2, b3)
  | _ => none
def f44.s0.out (y : Int × List Int × List Int) : Ex × VS := (.exit 0, ⟨[(5, .ptr 2 0), (6, .ptr 3 0), (7, .int .i64 y.1)], [(2, ([.ints .u64 8 y.2.1], 78)), (3, ([.ints .u64 8 y.2.2], 78))], 4⟩)
def f44.s0.inY : Ex → VS → Option (Int × List Int × List Int)
  | .exit 0, ⟨[(5, .ptr 2 0), (6, .ptr 3 0), (7, .int .i64 t7)], [(2, ([.ints .u64 8 b2], 78)), (3, ([.ints .u64 8 b3], 78))], 4⟩ => some (t7, b2, b3)
  | _, _ => none
def f44.lp (K : Nat) : Nat → Option (Hint × Summ) := tabLp [(0, f44.s0.h, summOf (iter (f44.s0 K) K) f44.s0.inX f44.s0.out)]
noncomputable def f44.tab (K : Nat) : List (Nat × Entry) := [(92, f92.E K)]
theorem f44.tabOK (K : Nat) : SpecOK Try.prog (tabSp (f44.tab K)) := tab_ok ((tab_cons (f92.ok K) tab_nil))
theorem f44.s0.eq (K : Nat) (rec : Int × List Int × List Int → Option (Int × List Int × List Int)) (x : Int × List Int × List Int) : f44.s0 K rec x = roundL (getA tys) (tabSp (f44.tab K)) 31 0 (f44.lp K) 400 f44.s0.b f44.s0.h f44.s0.ho f44.s0.shp f44.s0.inX f44.s0.inY rec x := by kernel_rfl
theorem f44.s0.lok (K : Nat) : LoopsOK Try.prog 31 0 (f44.lp K) f44.s0.b := loops_ok (by
  have h : loopsIn (f44.lp K) f44.s0.b = [] := by kernel_rfl
  rw [h]; simp)
theorem f44.s0.ok (K : Nat) : SummOK Try.prog 31 0 (summOf (iter (f44.s0 K) K) f44.s0.inX f44.s0.out) f44.s0.h f44.s0.b := by
  exact loop_ok mix tys_ok (f44.tabOK K) (h := f44.s0.h) (ho := f44.s0.ho) (shp := f44.s0.shp) (inX := f44.s0.inX) (out := f44.s0.out) (inY := f44.s0.inY) (fuel := 400)
    (by intro st x h; unfold f44.s0.inX at h; split at h <;> simp at h; subst h; rfl)
    (by intro e st y h; unfold f44.s0.inY at h; split at h <;> simp at h <;> subst h <;> rfl)
    (f44.s0.lok K) (f44.s0 K) (f44.s0.eq K) K
theorem f44.loops (K : Nat) : LoopsOK Try.prog 31 0 (f44.lp K) f44.c := loops_ok (by
  have h : loopsIn (f44.lp K) f44.c = [(0, f44.s0.b)] := by kernel_rfl
  rw [h]
  intro p hp
  simp only [List.mem_cons, List.not_mem_nil, or_false] at hp
  rcases hp with rfl
  · exact ⟨_, rfl, f44.s0.ok K⟩)
def f44.T (K : Nat) (a0 : List Int) (a1 : List Int) : Option (Int) :=
  (f92.F K a0).bind fun y1 =>
  (f92.F K a1).bind fun y2 =>
  bif (eqL 8 y1 y2 && true) then
    some (0)
  else
    (iter (f44.s0 K) K (7, y1, y2)).bind fun y14 =>
    bif decide (0 ≤ y14.1 ∧ y14.1 < 8) then
      bif decide (0 ≤ y14.1 ∧ y14.1 < 8) then
        bif (decide ((List.getD y14.2.1 (Int.toNat y14.1) 0) < (List.getD y14.2.2 (Int.toNat y14.1) 0))) then
          some (-1)
        else
          some (1)
      else
        none
    else
      none
def f44.F (K : Nat) (x : List Int × List Int) : Option (Int) := f44.T K x.1 x.2
def f44.mk (y : Int) : VV := .int .i64 y
def f44.inA : List VV → Option (List Int × List Int)
  | [.agg [.ints .u64 4 a0], .agg [.ints .u64 4 a1]] => some (a0, a1)
  | _ => none
def f44.shp (x : List Int × List Int) : List VV := [.agg [.ints .u64 4 x.1], .agg [.ints .u64 4 x.2]]
def f44.inR : VV → Option (Int)
  | .int .i64 y => some y
  | _ => none
noncomputable def f44.E (K : Nat) : Entry := pureE f44.inA (f44.F K) f44.mk
theorem f44.eq (K : Nat) (x : List Int × List Int) : f44.F K x = xrun (getA tys) (tabSp (f44.tab K)) Try.f44.ntmps 0 (f44.lp K) 400 f44.c ⟨initL 0 (f44.shp x), [], 0⟩ (contF (getA tys) Try.f44.results.toList fun v _ => f44.inR v) := by kernel_rfl
theorem f44.ok (K : Nat) : EntryOK Try.prog 44 (f44.E K) :=
  pure_ok mix tys_ok (f44.tabOK K) Try.func44 (by kernel_rfl : Try.f44.body = some f44.c) (by kernel_rfl) (f44.loops K) (shp := f44.shp) (fuel := 400)
    (by intro vs x h; unfold f44.inA at h; split at h <;> simp at h; subst h; rfl) (by intro v y h; unfold f44.inR at h; split at h <;> simp at h; subst h; exact ⟨rfl, rfl⟩)
    (by intro x; exact ⟨Nat.le_of_ble_eq_true rfl, rfl⟩) (f44.eq K)
end Go.Proofs

namespace Go.Proofs
open Go.VM
/-! ### burrow/limbs.Mul$1 -/
noncomputable def f94.c : Code := bodyOf Try.f94
def f94.s0t (_K : Nat) (rec : Int × Int × List Int → Option (List Int)) (t0 : Int) (t5 : Int) (b0 : List Int) : Option (List Int) :=
  bif (decide (t5 > 0)) then
    let v20 := IntKind.wrap .i64 (Int.tdiv t0 8)
    let v21 := Int.tmod t0 8
    bif decide (0 ≤ v20 ∧ v20 < 2) then
      bif decide (0 ≤ v21 ∧ v21 < 8) then
        let v23 := IntKind.wrap .u64 (t5 + (List.getD b0 (((Int.toNat v20) * 8) + (Int.toNat v21)) 0))
        rec ((IntKind.wrap .i64 (t0 + 1)), (Int.fdiv v23 (2 ^ 32)), (setD b0 (((Int.toNat v20) * 8) + (Int.toNat v21)) (bits .and .u64 v23 4294967295)))
      else
        none
    else
      none
  else
    some b0
def f94.s0 (K : Nat) (rec : Int × Int × List Int → Option (List Int)) (x : Int × Int × List Int) : Option (List Int) := f94.s0t K rec x.1 x.2.1 x.2.2
noncomputable def f94.s0.b : Code := (findLoop 0 f94.c).getD .skip
def f94.s0.h : Hint := ⟨[0, 2, 5], [0], 1⟩
def f94.s0.ho : Hint := ⟨[], [0], 1⟩
def f94.s0.shp (x : Int × Int × List Int) : VS := ⟨[(0, .int .i64 x.1), (2, .ptr 0 0), (5, .int .u64 x.2.1)], [(0, ([.ints .u64 16 x.2.2], 80))], 1⟩
def f94.s0.inX : VS → Option (Int × Int × List Int)
  | ⟨[(0, .int .i64 t0), (2, .ptr 0 0), (5, .int .u64 t5)], [(0, ([.ints .u64 16 b0], 80))], 1⟩ => some (t0, t5, b0)
  | _ => none
def f94.s0.out (y : List Int) : Ex × VS := (.exit 0, ⟨[], [(0, ([.ints .u64 16 y], 80))], 1⟩)
def f94.s0.inY : Ex → VS → Option (List Int)
  | .exit 0, ⟨[], [(0, ([.ints .u64 16 b0], 80))], 1⟩ => some b0
  | _, _ => none
def f94.lp (K : Nat) : Nat → Option (Hint × Summ) := tabLp [(0, f94.s0.h, summOf (iter (f94.s0 K) K) f94.s0.inX f94.s0.out)]
noncomputable def f94.tab (_K : Nat) : List (Nat × Entry) := []
theorem f94.tabOK (K : Nat) : SpecOK Try.prog (tabSp (f94.tab K)) := tab_ok tab_nil
theorem f94.s0.eq (K : Nat) (rec : Int × Int × List Int → Option (List Int)) (x : Int × Int × List Int) : f94.s0 K rec x = roundL (getA tys) (tabSp (f94.tab K)) 29 1 (f94.lp K) 400 f94.s0.b f94.s0.h f94.s0.ho f94.s0.shp f94.s0.inX f94.s0.inY rec x := by kernel_rfl
theorem f94.s0.lok (K : Nat) : LoopsOK Try.prog 29 1 (f94.lp K) f94.s0.b := loops_ok (by
  have h : loopsIn (f94.lp K) f94.s0.b = [] := by kernel_rfl
  rw [h]; simp)
theorem f94.s0.ok (K : Nat) : SummOK Try.prog 29 1 (summOf (iter (f94.s0 K) K) f94.s0.inX f94.s0.out) f94.s0.h f94.s0.b := by
  exact loop_ok mix tys_ok (f94.tabOK K) (h := f94.s0.h) (ho := f94.s0.ho) (shp := f94.s0.shp) (inX := f94.s0.inX) (out := f94.s0.out) (inY := f94.s0.inY) (fuel := 400)
    (by intro st x h; unfold f94.s0.inX at h; split at h <;> simp at h; subst h; rfl)
    (by intro e st y h; unfold f94.s0.inY at h; split at h <;> simp at h <;> subst h <;> rfl)
    (f94.s0.lok K) (f94.s0 K) (f94.s0.eq K) K
theorem f94.loops (K : Nat) : LoopsOK Try.prog 29 1 (f94.lp K) f94.c := loops_ok (by
  have h : loopsIn (f94.lp K) f94.c = [(0, f94.s0.b)] := by kernel_rfl
  rw [h]
  intro p hp
  simp only [List.mem_cons, List.not_mem_nil, or_false] at hp
  rcases hp with rfl
  · exact ⟨_, rfl, f94.s0.ok K⟩)
def f94.T (K : Nat) (a0 : Int) (a1 : Int) (m0 : List Int) : Option (List Int) :=
  (iter (f94.s0 K) K (a0, a1, m0)).bind fun y28 =>
  some y28
def f94.F (K : Nat) (x : Int × Int × List Int) : Option (List Int) := f94.T K x.1 x.2.1 x.2.2
def f94.mk (_y : List Int) : VV := .tup []
def f94.inA : List VV → List (Nat × Blk) → Option ((Int × Int × List Int) × List Nat)
  | [.int .i64 a0, .int .u64 a1, .ptr b0 0], M => match getA M b0 with
    | some ([.ints .u64 16 m0], 80) => some ((a0, a1, m0), [b0])
    | _ => none
  | _, _ => none
def f94.shp (x : Int × Int × List Int) (σ : Nat → Nat) : List VV := [.int .i64 x.1, .int .u64 x.2.1, .ptr (σ 0) 0]
def f94.bi (x : Int × Int × List Int) : List Blk := [([.ints .u64 16 x.2.2], 80)]
def f94.bo (y : List Int) : List Blk := [([.ints .u64 16 y], 80)]
def f94.inR : VV → VS → Option (List Int)
  | .tup [], st => match getA st.M 0 with
    | some ([.ints .u64 16 z0], 80) => some z0
    | _ => none
  | _, _ => none
noncomputable def f94.E (K : Nat) : Entry := refE f94.inA (f94.F K) f94.mk f94.bo
theorem f94.eq (K : Nat) (x : Int × Int × List Int) : f94.F K x = xrun (getA tys) (tabSp (f94.tab K)) Try.f94.ntmps 1 (f94.lp K) 400 f94.c ⟨initL 0 (f94.shp x id), initM 0 (f94.bi x), 1⟩ (contF (getA tys) Try.f94.results.toList f94.inR) := by kernel_rfl
theorem f94.ok (K : Nat) : EntryOK Try.prog 94 (f94.E K) :=
  ref_ok mix tys_ok (f94.tabOK K) Try.func94 (by kernel_rfl : Try.f94.body = some f94.c) (by kernel_rfl) (f94.loops K) (shp := f94.shp) (bi := f94.bi) (fuel := 400)
    (by intro vs M x bs h; unfold f94.inA at h; split at h <;> try (simp at h)
        split at h <;> simp at h
        rename_i h0
        obtain ⟨rfl, rfl⟩ := h
        refine ⟨rfl, rfl, fun i hi => ?_, by simp⟩
        match i, hi with
        | 0, _ => exact h0)
    (by intro x; exact ⟨rfl, Nat.le_of_ble_eq_true rfl, by show ∀ i ∈ ([0] : List Nat), i < 1; decide, rfl, by intro b hb; simp only [f94.bi, List.mem_cons, List.not_mem_nil, or_false] at hb; rcases hb with rfl <;> exact ⟨rfl, rfl⟩⟩)
    (by intro x ρ σ; rfl)
    (by intro v st y h; unfold f94.inR at h; split at h <;> try (simp at h)
        split at h <;> simp at h
        rename_i h0
        subst h
        refine ⟨rfl, rfl, rfl, fun i hi => ?_, by intro b hb; simp only [f94.bo, List.mem_cons, List.not_mem_nil, or_false] at hb; rcases hb with rfl <;> exact ⟨rfl, rfl⟩⟩
        match i, hi with
        | 0, _ => exact h0)
    (f94.eq K)
end Go.Proofs

namespace Go.Proofs
open Go.VM
/-! ### burrow/limbs.Mul -/
noncomputable def f36.c : Code := bodyOf Try.f36
def f36.s2t (K : Nat) (rec : Int × Int × Int × List Int × List Int × List Int × List Int × List Int → Option (Int × List Int × List Int × List Int × List Int × List Int)) (t10 : Int) (t17 : Int) (t20 : Int) (b2 : List Int) (b3 : List Int) (b4 : List Int) (b5 : List Int) (b6 : List Int) : Option (Int × List Int × List Int × List Int × List Int × List Int) :=
  bif (decide (t20 < 8)) then
    bif decide (0 ≤ t10 ∧ t10 < 8) then
      bif decide (0 ≤ t20 ∧ t20 < 8) then
        (f94.F K ((IntKind.wrap .i64 (t10 + t20)), (IntKind.wrap .u64 ((List.getD b4 (Int.toNat t10) 0) * (List.getD b5 (Int.toNat t20) 0))), b6)).bind fun y23 =>
        rec (t10, t17, (IntKind.wrap .i64 (t20 + 1)), b2, b3, b4, b5, y23)
      else
        none
    else
      none
  else
    some (t17, b2, b3, b4, b5, b6)
def f36.s2 (K : Nat) (rec : Int × Int × Int × List Int × List Int × List Int × List Int × List Int → Option (Int × List Int × List Int × List Int × List Int × List Int)) (x : Int × Int × Int × List Int × List Int × List Int × List Int × List Int) : Option (Int × List Int × List Int × List Int × List Int × List Int) := f36.s2t K rec x.1 x.2.1 x.2.2.1 x.2.2.2.1 x.2.2.2.2.1 x.2.2.2.2.2.1 x.2.2.2.2.2.2.1 x.2.2.2.2.2.2.2
noncomputable def f36.s2.b : Code := (findLoop 2 f36.c).getD .skip
def f36.s2.h : Hint := ⟨[4, 5, 6, 7, 8, 9, 10, 17, 20], [2, 3, 4, 5, 6], 7⟩
def f36.s2.ho : Hint := ⟨[4, 5, 6, 7, 8, 9, 17], [2, 3, 4, 5, 6], 7⟩
def f36.s2.shp (x : Int × Int × Int × List Int × List Int × List Int × List Int × List Int) : VS := ⟨[(4, .ptr 2 0), (5, .ptr 3 0), (6, .ptr 4 0), (7, .ptr 5 0), (8, .ptr 6 0), (9, .fn 94 [.ptr 6 0]), (10, .int .i64 x.1), (17, .int .i64 x.2.1), (20, .int .i64 x.2.2.1)], [(2, ([.ints .u64 4 x.2.2.2.1], 24)), (3, ([.ints .u64 4 x.2.2.2.2.1], 24)), (4, ([.ints .u64 8 x.2.2.2.2.2.1], 78)), (5, ([.ints .u64 8 x.2.2.2.2.2.2.1], 78)), (6, ([.ints .u64 16 x.2.2.2.2.2.2.2], 80))], 7⟩
def f36.s2.inX : VS → Option (Int × Int × Int × List Int × List Int × List Int × List Int × List Int)
  | ⟨[(4, .ptr 2 0), (5, .ptr 3 0), (6, .ptr 4 0), (7, .ptr 5 0), (8, .ptr 6 0), (9, .fn 94 [.ptr 6 0]), (10, .int .i64 t10), (17, .int .i64 t17), (20, .int .i64 t20)], [(2, ([.ints .u64 4 b2], 24)), (3, ([.ints .u64 4 b3], 24)), (4, ([.ints .u64 8 b4], 78)), (5, ([.ints .u64 8 b5], 78)), (6, ([.ints .u64 16 b6], 80))], 7⟩ => some (t10, t17, t20, b2, b3, b4, b5, b6)
  | _ => none
def f36.s2.out (y : Int × List Int × List Int × List Int × List Int × List Int) : Ex × VS := (.exit 2, ⟨[(4, .ptr 2 0), (5, .ptr 3 0), (6, .ptr 4 0), (7, .ptr 5 0), (8, .ptr 6 0), (9, .fn 94 [.ptr 6 0]), (17, .int .i64 y.1)], [(2, ([.ints .u64 4 y.2.1], 24)), (3, ([.ints .u64 4 y.2.2.1], 24)), (4, ([.ints .u64 8 y.2.2.2.1], 78)), (5, ([.ints .u64 8 y.2.2.2.2.1], 78)), (6, ([.ints .u64 16 y.2.2.2.2.2], 80))], 7⟩)
def f36.s2.inY : Ex → VS → Option (Int × List Int × List Int × List Int × List Int × List Int)
  | .exit 2, ⟨[(4, .ptr 2 0), (5, .ptr 3 0), (6, .ptr 4 0), (7, .ptr 5 0), (8, .ptr 6 0), (9, .fn 94 [.ptr 6 0]), (17, .int .i64 t17)], [(2, ([.ints .u64 4 b2], 24)), (3, ([.ints .u64 4 b3], 24)), (4, ([.ints .u64 8 b4], 78)), (5, ([.ints .u64 8 b5], 78)), (6, ([.ints .u64 16 b6], 80))], 7⟩ => some (t17, b2, b3, b4, b5, b6)
  | _, _ => none
def f36.s0t (K : Nat) (rec : Int × List Int × List Int × List Int × List Int × List Int → Option (List Int × List Int × List Int)) (t17 : Int) (b2 : List Int) (b3 : List Int) (b4 : List Int) (b5 : List Int) (b6 : List Int) : Option (List Int × List Int × List Int) :=
  bif (decide (t17 < 8)) then
    (iter (f36.s2 K) K (t17, t17, 0, b2, b3, b4, b5, b6)).bind fun y31 =>
    rec ((IntKind.wrap .i64 (y31.1 + 1)), y31.2.1, y31.2.2.1, y31.2.2.2.1, y31.2.2.2.2.1, y31.2.2.2.2.2)
  else
    some (b2, b3, b6)
def f36.s0 (K : Nat) (rec : Int × List Int × List Int × List Int × List Int × List Int → Option (List Int × List Int × List Int)) (x : Int × List Int × List Int × List Int × List Int × List Int) : Option (List Int × List Int × List Int) := f36.s0t K rec x.1 x.2.1 x.2.2.1 x.2.2.2.1 x.2.2.2.2.1 x.2.2.2.2.2
noncomputable def f36.s0.b : Code := (findLoop 0 f36.c).getD .skip
def f36.s0.h : Hint := ⟨[4, 5, 6, 7, 8, 9, 17], [2, 3, 4, 5, 6], 7⟩
def f36.s0.ho : Hint := ⟨[4, 5, 8], [2, 3, 6], 7⟩
def f36.s0.shp (x : Int × List Int × List Int × List Int × List Int × List Int) : VS := ⟨[(4, .ptr 2 0), (5, .ptr 3 0), (6, .ptr 4 0), (7, .ptr 5 0), (8, .ptr 6 0), (9, .fn 94 [.ptr 6 0]), (17, .int .i64 x.1)], [(2, ([.ints .u64 4 x.2.1], 24)), (3, ([.ints .u64 4 x.2.2.1], 24)), (4, ([.ints .u64 8 x.2.2.2.1], 78)), (5, ([.ints .u64 8 x.2.2.2.2.1], 78)), (6, ([.ints .u64 16 x.2.2.2.2.2], 80))], 7⟩
def f36.s0.inX : VS → Option (Int × List Int × List Int × List Int × List Int × List Int)
  | ⟨[(4, .ptr 2 0), (5, .ptr 3 0), (6, .ptr 4 0), (7, .ptr 5 0), (8, .ptr 6 0), (9, .fn 94 [.ptr 6 0]), (17, .int .i64 t17)], [(2, ([.ints .u64 4 b2], 24)), (3, ([.ints .u64 4 b3], 24)), (4, ([.ints .u64 8 b4], 78)), (5, ([.ints .u64 8 b5], 78)), (6, ([.ints .u64 16 b6], 80))], 7⟩ => some (t17, b2, b3, b4, b5, b6)
  | _ => none
def f36.s0.out (y : List Int × List Int × List Int) : Ex × VS := (.exit 0, ⟨[(4, .ptr 2 0), (5, .ptr 3 0), (8, .ptr 6 0)], [(2, ([.ints .u64 4 y.1], 24)), (3, ([.ints .u64 4 y.2.1], 24)), (6, ([.ints .u64 16 y.2.2], 80))], 7⟩)
def f36.s0.inY : Ex → VS → Option (List Int × List Int × List Int)
  | .exit 0, ⟨[(4, .ptr 2 0), (5, .ptr 3 0), (8, .ptr 6 0)], [(2, ([.ints .u64 4 b2], 24)), (3, ([.ints .u64 4 b3], 24)), (6, ([.ints .u64 16 b6], 80))], 7⟩ => some (b2, b3, b6)
  | _, _ => none
def f36.lp (K : Nat) : Nat → Option (Hint × Summ) := tabLp [(2, f36.s2.h, summOf (iter (f36.s2 K) K) f36.s2.inX f36.s2.out), (0, f36.s0.h, summOf (iter (f36.s0 K) K) f36.s0.inX f36.s0.out)]
noncomputable def f36.tab (K : Nat) : List (Nat × Entry) := [(92, f92.E K), (94, f94.E K), (93, f93.E K)]
theorem f36.tabOK (K : Nat) : SpecOK Try.prog (tabSp (f36.tab K)) := tab_ok ((tab_cons (f92.ok K) (tab_cons (f94.ok K) (tab_cons (f93.ok K) tab_nil))))
theorem f36.s2.eq (K : Nat) (rec : Int × Int × Int × List Int × List Int × List Int × List Int × List Int → Option (Int × List Int × List Int × List Int × List Int × List Int)) (x : Int × Int × Int × List Int × List Int × List Int × List Int × List Int) : f36.s2 K rec x = roundL (getA tys) (tabSp (f36.tab K)) 43 0 (f36.lp K) 400 f36.s2.b f36.s2.h f36.s2.ho f36.s2.shp f36.s2.inX f36.s2.inY rec x := by kernel_rfl
theorem f36.s0.eq (K : Nat) (rec : Int × List Int × List Int × List Int × List Int × List Int → Option (List Int × List Int × List Int)) (x : Int × List Int × List Int × List Int × List Int × List Int) : f36.s0 K rec x = roundL (getA tys) (tabSp (f36.tab K)) 43 0 (f36.lp K) 400 f36.s0.b f36.s0.h f36.s0.ho f36.s0.shp f36.s0.inX f36.s0.inY rec x := by kernel_rfl
theorem f36.s2.lok (K : Nat) : LoopsOK Try.prog 43 0 (f36.lp K) f36.s2.b := loops_ok (by
  have h : loopsIn (f36.lp K) f36.s2.b = [] := by kernel_rfl
  rw [h]; simp)
theorem f36.s2.ok (K : Nat) : SummOK Try.prog 43 0 (summOf (iter (f36.s2 K) K) f36.s2.inX f36.s2.out) f36.s2.h f36.s2.b := by
  exact loop_ok mix tys_ok (f36.tabOK K) (h := f36.s2.h) (ho := f36.s2.ho) (shp := f36.s2.shp) (inX := f36.s2.inX) (out := f36.s2.out) (inY := f36.s2.inY) (fuel := 400)
    (by intro st x h; unfold f36.s2.inX at h; split at h <;> simp at h; subst h; rfl)
    (by intro e st y h; unfold f36.s2.inY at h; split at h <;> simp at h <;> subst h <;> rfl)
    (f36.s2.lok K) (f36.s2 K) (f36.s2.eq K) K
theorem f36.s0.lok (K : Nat) : LoopsOK Try.prog 43 0 (f36.lp K) f36.s0.b := loops_ok (by
  have h : loopsIn (f36.lp K) f36.s0.b = [(2, f36.s2.b)] := by kernel_rfl
  rw [h]
  intro p hp
  simp only [List.mem_cons, List.not_mem_nil, or_false] at hp
  rcases hp with rfl
  · exact ⟨_, rfl, f36.s2.ok K⟩)
theorem f36.s0.ok (K : Nat) : SummOK Try.prog 43 0 (summOf (iter (f36.s0 K) K) f36.s0.inX f36.s0.out) f36.s0.h f36.s0.b := by
  exact loop_ok mix tys_ok (f36.tabOK K) (h := f36.s0.h) (ho := f36.s0.ho) (shp := f36.s0.shp) (inX := f36.s0.inX) (out := f36.s0.out) (inY := f36.s0.inY) (fuel := 400)
    (by intro st x h; unfold f36.s0.inX at h; split at h <;> simp at h; subst h; rfl)
    (by intro e st y h; unfold f36.s0.inY at h; split at h <;> simp at h <;> subst h <;> rfl)
    (f36.s0.lok K) (f36.s0 K) (f36.s0.eq K) K
theorem f36.loops (K : Nat) : LoopsOK Try.prog 43 0 (f36.lp K) f36.c := loops_ok (by
  have h : loopsIn (f36.lp K) f36.c = [(0, f36.s0.b)] := by kernel_rfl
  rw [h]
  intro p hp
  simp only [List.mem_cons, List.not_mem_nil, or_false] at hp
  rcases hp with rfl
  · exact ⟨_, rfl, f36.s0.ok K⟩)
def f36.T (K : Nat) (a0 : List Int) (a1 : List Int) : Option (List Int × List Int) :=
  (f92.F K a0).bind fun y1 =>
  (f92.F K a1).bind fun y2 =>
  (iter (f36.s0 K) K (0, [0, 0, 0, 0], [0, 0, 0, 0], y1, y2, [0, 0, 0, 0, 0, 0, 0, 0, 0, 0, 0, 0, 0, 0, 0, 0])).bind fun y33 =>
  (f93.F K (List.take 8 (List.drop 0 y33.2.2))).bind fun y35 =>
  (f93.F K (List.take 8 (List.drop 8 y33.2.2))).bind fun y37 =>
  some (y35, y37)
def f36.F (K : Nat) (x : List Int × List Int) : Option (List Int × List Int) := f36.T K x.1 x.2
def f36.mk (y : List Int × List Int) : VV := .tup [.agg [.ints .u64 4 y.1], .agg [.ints .u64 4 y.2]]
def f36.inA : List VV → Option (List Int × List Int)
  | [.agg [.ints .u64 4 a0], .agg [.ints .u64 4 a1]] => some (a0, a1)
  | _ => none
def f36.shp (x : List Int × List Int) : List VV := [.agg [.ints .u64 4 x.1], .agg [.ints .u64 4 x.2]]
def f36.inR : VV → Option (List Int × List Int)
  | .tup [.agg [.ints .u64 4 y0], .agg [.ints .u64 4 y1]] => some (y0, y1)
  | _ => none
noncomputable def f36.E (K : Nat) : Entry := pureE f36.inA (f36.F K) f36.mk
theorem f36.eq (K : Nat) (x : List Int × List Int) : f36.F K x = xrun (getA tys) (tabSp (f36.tab K)) Try.f36.ntmps 0 (f36.lp K) 400 f36.c ⟨initL 0 (f36.shp x), [], 0⟩ (contF (getA tys) Try.f36.results.toList fun v _ => f36.inR v) := by kernel_rfl
theorem f36.ok (K : Nat) : EntryOK Try.prog 36 (f36.E K) :=
  pure_ok mix tys_ok (f36.tabOK K) Try.func36 (by kernel_rfl : Try.f36.body = some f36.c) (by kernel_rfl) (f36.loops K) (shp := f36.shp) (fuel := 400)
    (by intro vs x h; unfold f36.inA at h; split at h <;> simp at h; subst h; rfl) (by intro v y h; unfold f36.inR at h; split at h <;> simp at h; subst h; exact ⟨rfl, rfl⟩)
    (by intro x; exact ⟨Nat.le_of_ble_eq_true rfl, rfl⟩) (f36.eq K)
end Go.Proofs

namespace Go.Proofs
open Go.VM
/-! ### burrow/limbs.Shift -/
noncomputable def f38.c : Code := bodyOf Try.f38
def f38.s2t (_K : Nat) (rec : Int × Int × List Int × Int × List Int × Int × List Int × List Int → Option (Int × List Int × Int × List Int × List Int)) (t7 : Int) (t11 : Int) (t27 : List Int) (t28 : Int) (t49 : List Int) (t50 : Int) (b1 : List Int) (b3 : List Int) : Option (Int × List Int × Int × List Int × List Int) :=
  bif (decide (t50 < 2)) then
    bif decide (0 ≤ t50 ∧ t50 < 2) then
      bif (decide ((IntKind.wrap .i64 (t11 + t50)) ≥ 0)) then
        bif (decide ((IntKind.wrap .i64 (t11 + t50)) < 8)) then
          let v50 := IntKind.wrap .i64 (t11 + t50)
          bif decide (0 ≤ v50 ∧ v50 < 8) then
            bif decide (0 ≤ v50 ∧ v50 < 8) then
              rec (t7, t11, t27, t28, t49, (IntKind.wrap .i64 (t50 + 1)), b1, (setD b3 (Int.toNat v50) (bits .or .u64 (List.getD b3 (Int.toNat v50) 0) (List.getD t49 (Int.toNat t50) 0))))
            else
              none
          else
            none
        else
          rec (t7, t11, t27, t28, t49, (IntKind.wrap .i64 (t50 + 1)), b1, b3)
      else
        rec (t7, t11, t27, t28, t49, (IntKind.wrap .i64 (t50 + 1)), b1, b3)
    else
      none
  else
    some (t7, t27, t28, b1, b3)
def f38.s2 (K : Nat) (rec : Int × Int × List Int × Int × List Int × Int × List Int × List Int → Option (Int × List Int × Int × List Int × List Int)) (x : Int × Int × List Int × Int × List Int × Int × List Int × List Int) : Option (Int × List Int × Int × List Int × List Int) := f38.s2t K rec x.1 x.2.1 x.2.2.1 x.2.2.2.1 x.2.2.2.2.1 x.2.2.2.2.2.1 x.2.2.2.2.2.2.1 x.2.2.2.2.2.2.2
noncomputable def f38.s2.b : Code := (findLoop 2 f38.c).getD .skip
def f38.s2.h : Hint := ⟨[4, 6, 7, 11, 27, 28, 49, 50], [1, 3], 4⟩
def f38.s2.ho : Hint := ⟨[4, 6, 7, 27, 28], [1, 3], 4⟩
def f38.s2.shp (x : Int × Int × List Int × Int × List Int × Int × List Int × List Int) : VS := ⟨[(4, .ptr 1 0), (6, .ptr 3 0), (7, .int .i64 x.1), (11, .int .i64 x.2.1), (27, .agg [.ints .u64 8 x.2.2.1]), (28, .int .i64 x.2.2.2.1), (49, .agg [.ints .u64 2 x.2.2.2.2.1]), (50, .int .i64 x.2.2.2.2.2.1)], [(1, ([.ints .u64 4 x.2.2.2.2.2.2.1], 24)), (3, ([.ints .u64 8 x.2.2.2.2.2.2.2], 78))], 4⟩
def f38.s2.inX : VS → Option (Int × Int × List Int × Int × List Int × Int × List Int × List Int)
  | ⟨[(4, .ptr 1 0), (6, .ptr 3 0), (7, .int .i64 t7), (11, .int .i64 t11), (27, .agg [.ints .u64 8 t27]), (28, .int .i64 t28), (49, .agg [.ints .u64 2 t49]), (50, .int .i64 t50)], [(1, ([.ints .u64 4 b1], 24)), (3, ([.ints .u64 8 b3], 78))], 4⟩ => some (t7, t11, t27, t28, t49, t50, b1, b3)
  | _ => none
def f38.s2.out (y : Int × List Int × Int × List Int × List Int) : Ex × VS := (.exit 2, ⟨[(4, .ptr 1 0), (6, .ptr 3 0), (7, .int .i64 y.1), (27, .agg [.ints .u64 8 y.2.1]), (28, .int .i64 y.2.2.1)], [(1, ([.ints .u64 4 y.2.2.2.1], 24)), (3, ([.ints .u64 8 y.2.2.2.2], 78))], 4⟩)
def f38.s2.inY : Ex → VS → Option (Int × List Int × Int × List Int × List Int)
  | .exit 2, ⟨[(4, .ptr 1 0), (6, .ptr 3 0), (7, .int .i64 t7), (27, .agg [.ints .u64 8 t27]), (28, .int .i64 t28)], [(1, ([.ints .u64 4 b1], 24)), (3, ([.ints .u64 8 b3], 78))], 4⟩ => some (t7, t27, t28, b1, b3)
  | _, _ => none
def f38.s0t (K : Nat) (rec : Int × List Int × Int × List Int × List Int → Option (List Int × List Int)) (t7 : Int) (t27 : List Int) (t28 : Int) (b1 : List Int) (b3 : List Int) : Option (List Int × List Int) :=
  bif (decide (t28 < 8)) then
    bif decide (0 ≤ t28 ∧ t28 < 8) then
      let v73 := List.getD t27 (Int.toNat t28) 0
      let v75 := IntKind.wrap .i64 ((IntKind.wrap .i64 (t28 * 32)) + t7)
      let v78 := Int.tmod v75 32
      bif decide (0 ≤ v78) then
        bif decide (0 ≤ v78) then
          (iter (f38.s2 K) K (t7, (IntKind.wrap .i64 ((IntKind.wrap .i64 (Int.tdiv v75 32)) - 8)), t27, t28, [(bits .and .u64 (shiftI .shl .u64 v73 v78) 4294967295), (Int.fdiv (shiftI .shl .u64 v73 v78) (2 ^ 32))], 0, b1, b3)).bind fun y83 =>
          rec (y83.1, y83.2.1, (IntKind.wrap .i64 (y83.2.2.1 + 1)), y83.2.2.2.1, y83.2.2.2.2)
        else
          none
      else
        none
    else
      none
  else
    some (b1, b3)
def f38.s0 (K : Nat) (rec : Int × List Int × Int × List Int × List Int → Option (List Int × List Int)) (x : Int × List Int × Int × List Int × List Int) : Option (List Int × List Int) := f38.s0t K rec x.1 x.2.1 x.2.2.1 x.2.2.2.1 x.2.2.2.2
noncomputable def f38.s0.b : Code := (findLoop 0 f38.c).getD .skip
def f38.s0.h : Hint := ⟨[4, 6, 7, 27, 28], [1, 3], 4⟩
def f38.s0.ho : Hint := ⟨[4, 6], [1, 3], 4⟩
def f38.s0.shp (x : Int × List Int × Int × List Int × List Int) : VS := ⟨[(4, .ptr 1 0), (6, .ptr 3 0), (7, .int .i64 x.1), (27, .agg [.ints .u64 8 x.2.1]), (28, .int .i64 x.2.2.1)], [(1, ([.ints .u64 4 x.2.2.2.1], 24)), (3, ([.ints .u64 8 x.2.2.2.2], 78))], 4⟩
def f38.s0.inX : VS → Option (Int × List Int × Int × List Int × List Int)
  | ⟨[(4, .ptr 1 0), (6, .ptr 3 0), (7, .int .i64 t7), (27, .agg [.ints .u64 8 t27]), (28, .int .i64 t28)], [(1, ([.ints .u64 4 b1], 24)), (3, ([.ints .u64 8 b3], 78))], 4⟩ => some (t7, t27, t28, b1, b3)
  | _ => none
def f38.s0.out (y : List Int × List Int) : Ex × VS := (.exit 0, ⟨[(4, .ptr 1 0), (6, .ptr 3 0)], [(1, ([.ints .u64 4 y.1], 24)), (3, ([.ints .u64 8 y.2], 78))], 4⟩)
def f38.s0.inY : Ex → VS → Option (List Int × List Int)
  | .exit 0, ⟨[(4, .ptr 1 0), (6, .ptr 3 0)], [(1, ([.ints .u64 4 b1], 24)), (3, ([.ints .u64 8 b3], 78))], 4⟩ => some (b1, b3)
  | _, _ => none
def f38.lp (K : Nat) : Nat → Option (Hint × Summ) := tabLp [(2, f38.s2.h, summOf (iter (f38.s2 K) K) f38.s2.inX f38.s2.out), (0, f38.s0.h, summOf (iter (f38.s0 K) K) f38.s0.inX f38.s0.out)]
noncomputable def f38.tab (K : Nat) : List (Nat × Entry) := [(92, f92.E K), (93, f93.E K)]
theorem f38.tabOK (K : Nat) : SpecOK Try.prog (tabSp (f38.tab K)) := tab_ok ((tab_cons (f92.ok K) (tab_cons (f93.ok K) tab_nil)))
theorem f38.s2.eq (K : Nat) (rec : Int × Int × List Int × Int × List Int × Int × List Int × List Int → Option (Int × List Int × Int × List Int × List Int)) (x : Int × Int × List Int × Int × List Int × Int × List Int × List Int) : f38.s2 K rec x = roundL (getA tys) (tabSp (f38.tab K)) 76 0 (f38.lp K) 400 f38.s2.b f38.s2.h f38.s2.ho f38.s2.shp f38.s2.inX f38.s2.inY rec x := by kernel_rfl
theorem f38.s0.eq (K : Nat) (rec : Int × List Int × Int × List Int × List Int → Option (List Int × List Int)) (x : Int × List Int × Int × List Int × List Int) : f38.s0 K rec x = roundL (getA tys) (tabSp (f38.tab K)) 76 0 (f38.lp K) 400 f38.s0.b f38.s0.h f38.s0.ho f38.s0.shp f38.s0.inX f38.s0.inY rec x := by kernel_rfl
theorem f38.s2.lok (K : Nat) : LoopsOK Try.prog 76 0 (f38.lp K) f38.s2.b := loops_ok (by
  have h : loopsIn (f38.lp K) f38.s2.b = [] := by kernel_rfl
  rw [h]; simp)
theorem f38.s2.ok (K : Nat) : SummOK Try.prog 76 0 (summOf (iter (f38.s2 K) K) f38.s2.inX f38.s2.out) f38.s2.h f38.s2.b := by
  exact loop_ok mix tys_ok (f38.tabOK K) (h := f38.s2.h) (ho := f38.s2.ho) (shp := f38.s2.shp) (inX := f38.s2.inX) (out := f38.s2.out) (inY := f38.s2.inY) (fuel := 400)
    (by intro st x h; unfold f38.s2.inX at h; split at h <;> simp at h; subst h; rfl)
    (by intro e st y h; unfold f38.s2.inY at h; split at h <;> simp at h <;> subst h <;> rfl)
    (f38.s2.lok K) (f38.s2 K) (f38.s2.eq K) K
theorem f38.s0.lok (K : Nat) : LoopsOK Try.prog 76 0 (f38.lp K) f38.s0.b := loops_ok (by
  have h : loopsIn (f38.lp K) f38.s0.b = [(2, f38.s2.b)] := by kernel_rfl
  rw [h]
  intro p hp
  simp only [List.mem_cons, List.not_mem_nil, or_false] at hp
  rcases hp with rfl
  · exact ⟨_, rfl, f38.s2.ok K⟩)
theorem f38.s0.ok (K : Nat) : SummOK Try.prog 76 0 (summOf (iter (f38.s0 K) K) f38.s0.inX f38.s0.out) f38.s0.h f38.s0.b := by
  exact loop_ok mix tys_ok (f38.tabOK K) (h := f38.s0.h) (ho := f38.s0.ho) (shp := f38.s0.shp) (inX := f38.s0.inX) (out := f38.s0.out) (inY := f38.s0.inY) (fuel := 400)
    (by intro st x h; unfold f38.s0.inX at h; split at h <;> simp at h; subst h; rfl)
    (by intro e st y h; unfold f38.s0.inY at h; split at h <;> simp at h <;> subst h <;> rfl)
    (f38.s0.lok K) (f38.s0 K) (f38.s0.eq K) K
theorem f38.loops (K : Nat) : LoopsOK Try.prog 76 0 (f38.lp K) f38.c := loops_ok (by
  have h : loopsIn (f38.lp K) f38.c = [(0, f38.s0.b)] := by kernel_rfl
  rw [h]
  intro p hp
  simp only [List.mem_cons, List.not_mem_nil, or_false] at hp
  rcases hp with rfl
  · exact ⟨_, rfl, f38.s0.ok K⟩)
def f38.T (K : Nat) (a0 : List Int) (a1 : Int) : Option (List Int) :=
  (f92.F K a0).bind fun y1 =>
  bif (decide (a1 ≤ (-256))) then
    (f93.F K [0, 0, 0, 0, 0, 0, 0, 0]).bind fun y3 =>
    some y3
  else
    bif (decide (a1 ≥ 256)) then
      (f93.F K [0, 0, 0, 0, 0, 0, 0, 0]).bind fun y5 =>
      some y5
    else
      (iter (f38.s0 K) K ((IntKind.wrap .i64 (a1 + 256)), y1, 0, [0, 0, 0, 0], [0, 0, 0, 0, 0, 0, 0, 0])).bind fun y85 =>
      (f93.F K y85.2).bind fun y86 =>
      some y86
def f38.F (K : Nat) (x : List Int × Int) : Option (List Int) := f38.T K x.1 x.2
def f38.mk (y : List Int) : VV := .agg [.ints .u64 4 y]
def f38.inA : List VV → Option (List Int × Int)
  | [.agg [.ints .u64 4 a0], .int .i64 a1] => some (a0, a1)
  | _ => none
def f38.shp (x : List Int × Int) : List VV := [.agg [.ints .u64 4 x.1], .int .i64 x.2]
def f38.inR : VV → Option (List Int)
  | .agg [.ints .u64 4 y] => some y
  | _ => none
noncomputable def f38.E (K : Nat) : Entry := pureE f38.inA (f38.F K) f38.mk
theorem f38.eq (K : Nat) (x : List Int × Int) : f38.F K x = xrun (getA tys) (tabSp (f38.tab K)) Try.f38.ntmps 0 (f38.lp K) 400 f38.c ⟨initL 0 (f38.shp x), [], 0⟩ (contF (getA tys) Try.f38.results.toList fun v _ => f38.inR v) := by kernel_rfl
theorem f38.ok (K : Nat) : EntryOK Try.prog 38 (f38.E K) :=
  pure_ok mix tys_ok (f38.tabOK K) Try.func38 (by kernel_rfl : Try.f38.body = some f38.c) (by kernel_rfl) (f38.loops K) (shp := f38.shp) (fuel := 400)
    (by intro vs x h; unfold f38.inA at h; split at h <;> simp at h; subst h; rfl) (by intro v y h; unfold f38.inR at h; split at h <;> simp at h; subst h; exact ⟨rfl, rfl⟩)
    (by intro x; exact ⟨Nat.le_of_ble_eq_true rfl, rfl⟩) (f38.eq K)
end Go.Proofs

namespace Go.Proofs
open Go.VM
/-! ### burrow/burrowlaw02.none -/
noncomputable def f50.c : Code := bodyOf Try.f50
def f50.lp (_ : Nat) : Nat → Option (Hint × Summ) := fun _ => none
noncomputable def f50.tab (_K : Nat) : List (Nat × Entry) := []
theorem f50.tabOK (K : Nat) : SpecOK Try.prog (tabSp (f50.tab K)) := tab_ok tab_nil
theorem f50.loops (K : Nat) : LoopsOK Try.prog 2 0 (f50.lp K) f50.c := loops_ok (by
  have h : loopsIn (f50.lp K) f50.c = [] := by kernel_rfl
  rw [h]; simp)
def f50.T (_K : Nat)  : Option (List Int) :=
  some ([0, 0, 0, 0])
def f50.F (K : Nat) (_x : Unit) : Option (List Int) := f50.T K 
def f50.mk (y : List Int) : VV := .agg [.ints .u64 4 y]
def f50.inA : List VV → Option (Unit)
  | [] => some ()
  | _ => none
def f50.shp (_x : Unit) : List VV := []
def f50.inR : VV → Option (List Int)
  | .agg [.ints .u64 4 y] => some y
  | _ => none
noncomputable def f50.E (K : Nat) : Entry := pureE f50.inA (f50.F K) f50.mk
theorem f50.eq (K : Nat) (x : Unit) : f50.F K x = xrun (getA tys) (tabSp (f50.tab K)) Try.f50.ntmps 0 (f50.lp K) 400 f50.c ⟨initL 0 (f50.shp x), [], 0⟩ (contF (getA tys) Try.f50.results.toList fun v _ => f50.inR v) := by kernel_rfl
theorem f50.ok (K : Nat) : EntryOK Try.prog 50 (f50.E K) :=
  pure_ok mix tys_ok (f50.tabOK K) Try.func50 (by kernel_rfl : Try.f50.body = some f50.c) (by kernel_rfl) (f50.loops K) (shp := f50.shp) (fuel := 400)
    (by intro vs x h; unfold f50.inA at h; split at h <;> simp at h; rfl) (by intro v y h; unfold f50.inR at h; split at h <;> simp at h; subst h; exact ⟨rfl, rfl⟩)
    (by intro x; exact ⟨Nat.le_of_ble_eq_true rfl, rfl⟩) (f50.eq K)
end Go.Proofs

namespace Go.Proofs
open Go.VM
/-! ### burrow/burrowlaw02.turned -/
noncomputable def f48.c : Code := bodyOf Try.f48
def f48.lp (_ : Nat) : Nat → Option (Hint × Summ) := fun _ => none
noncomputable def f48.tab (_K : Nat) : List (Nat × Entry) := []
theorem f48.tabOK (K : Nat) : SpecOK Try.prog (tabSp (f48.tab K)) := tab_ok tab_nil
theorem f48.loops (K : Nat) : LoopsOK Try.prog 15 0 (f48.lp K) f48.c := loops_ok (by
  have h : loopsIn (f48.lp K) f48.c = [] := by kernel_rfl
  rw [h]; simp)
def f48.T (_K : Nat) (a0 : List Int) : Option (List Int) :=
  let v3 := setD a0 0 (bits .xor .u64 18446744073709551615 (List.getD a0 0 0))
  let v6 := setD v3 1 (bits .xor .u64 18446744073709551615 (List.getD v3 1 0))
  let v9 := setD v6 2 (bits .xor .u64 18446744073709551615 (List.getD v6 2 0))
  some (setD v9 3 (bits .xor .u64 18446744073709551615 (List.getD v9 3 0)))
def f48.F (K : Nat) (x : List Int) : Option (List Int) := f48.T K x
def f48.mk (y : List Int) : VV := .agg [.ints .u64 4 y]
def f48.inA : List VV → Option (List Int)
  | [.agg [.ints .u64 4 a0]] => some a0
  | _ => none
def f48.shp (x : List Int) : List VV := [.agg [.ints .u64 4 x]]
def f48.inR : VV → Option (List Int)
  | .agg [.ints .u64 4 y] => some y
  | _ => none
noncomputable def f48.E (K : Nat) : Entry := pureE f48.inA (f48.F K) f48.mk
theorem f48.eq (K : Nat) (x : List Int) : f48.F K x = xrun (getA tys) (tabSp (f48.tab K)) Try.f48.ntmps 0 (f48.lp K) 400 f48.c ⟨initL 0 (f48.shp x), [], 0⟩ (contF (getA tys) Try.f48.results.toList fun v _ => f48.inR v) := by kernel_rfl
theorem f48.ok (K : Nat) : EntryOK Try.prog 48 (f48.E K) :=
  pure_ok mix tys_ok (f48.tabOK K) Try.func48 (by kernel_rfl : Try.f48.body = some f48.c) (by kernel_rfl) (f48.loops K) (shp := f48.shp) (fuel := 400)
    (by intro vs x h; unfold f48.inA at h; split at h <;> simp at h; subst h; rfl) (by intro v y h; unfold f48.inR at h; split at h <;> simp at h; subst h; exact ⟨rfl, rfl⟩)
    (by intro x; exact ⟨Nat.le_of_ble_eq_true rfl, rfl⟩) (f48.eq K)
end Go.Proofs

namespace Go.Proofs
open Go.VM
/-! ### burrow/burrowlaw02.all -/
noncomputable def f49.c : Code := bodyOf Try.f49
def f49.lp (_ : Nat) : Nat → Option (Hint × Summ) := fun _ => none
noncomputable def f49.tab (K : Nat) : List (Nat × Entry) := [(50, f50.E K), (48, f48.E K)]
theorem f49.tabOK (K : Nat) : SpecOK Try.prog (tabSp (f49.tab K)) := tab_ok ((tab_cons (f50.ok K) (tab_cons (f48.ok K) tab_nil)))
theorem f49.loops (K : Nat) : LoopsOK Try.prog 3 0 (f49.lp K) f49.c := loops_ok (by
  have h : loopsIn (f49.lp K) f49.c = [] := by kernel_rfl
  rw [h]; simp)
def f49.T (K : Nat)  : Option (List Int) :=
  (f50.F K ()).bind fun y1 =>
  (f48.F K y1).bind fun y2 =>
  some y2
def f49.F (K : Nat) (_x : Unit) : Option (List Int) := f49.T K 
def f49.mk (y : List Int) : VV := .agg [.ints .u64 4 y]
def f49.inA : List VV → Option (Unit)
  | [] => some ()
  | _ => none
def f49.shp (_x : Unit) : List VV := []
def f49.inR : VV → Option (List Int)
  | .agg [.ints .u64 4 y] => some y
  | _ => none
noncomputable def f49.E (K : Nat) : Entry := pureE f49.inA (f49.F K) f49.mk
theorem f49.eq (K : Nat) (x : Unit) : f49.F K x = xrun (getA tys) (tabSp (f49.tab K)) Try.f49.ntmps 0 (f49.lp K) 400 f49.c ⟨initL 0 (f49.shp x), [], 0⟩ (contF (getA tys) Try.f49.results.toList fun v _ => f49.inR v) := by kernel_rfl
theorem f49.ok (K : Nat) : EntryOK Try.prog 49 (f49.E K) :=
  pure_ok mix tys_ok (f49.tabOK K) Try.func49 (by kernel_rfl : Try.f49.body = some f49.c) (by kernel_rfl) (f49.loops K) (shp := f49.shp) (fuel := 400)
    (by intro vs x h; unfold f49.inA at h; split at h <;> simp at h; rfl) (by intro v y h; unfold f49.inR at h; split at h <;> simp at h; subst h; exact ⟨rfl, rfl⟩)
    (by intro x; exact ⟨Nat.le_of_ble_eq_true rfl, rfl⟩) (f49.eq K)
end Go.Proofs

namespace Go.Proofs
open Go.VM
/-! ### burrow/burrowlaw02.alive -/
noncomputable def f51.c : Code := bodyOf Try.f51
def f51.lp (_ : Nat) : Nat → Option (Hint × Summ) := fun _ => none
noncomputable def f51.tab (K : Nat) : List (Nat × Entry) := [(49, f49.E K), (46, f46.E K), (32, f32.E K), (50, f50.E K), (34, f34.E K), (36, f36.E K), (38, f38.E K), (42, f42.E K), (40, f40.E K), (44, f44.E K)]
theorem f51.tabOK (K : Nat) : SpecOK Try.prog (tabSp (f51.tab K)) := tab_ok ((tab_cons (f49.ok K) (tab_cons (f46.ok K) (tab_cons (f32.ok K) (tab_cons (f50.ok K) (tab_cons (f34.ok K) (tab_cons (f36.ok K) (tab_cons (f38.ok K) (tab_cons (f42.ok K) (tab_cons (f40.ok K) (tab_cons (f44.ok K) tab_nil)))))))))))
theorem f51.loops (K : Nat) : LoopsOK Try.prog 89 0 (f51.lp K) f51.c := loops_ok (by
  have h : loopsIn (f51.lp K) f51.c = [] := by kernel_rfl
  rw [h]; simp)
def f51.T (K : Nat)  : Option (Bool) :=
  (f49.F K ()).bind fun y1 =>
  (f46.F K 1).bind fun y2 =>
  (f32.F K (y1, y2)).bind fun y3 =>
  (f50.F K ()).bind fun y4 =>
  (f46.F K 1).bind fun y5 =>
  (f34.F K (y4, y5)).bind fun y6 =>
  (f36.F K ([0, 0, 1, 0], [0, 0, 1, 0])).bind fun y7 =>
  (f50.F K ()).bind fun y8 =>
  bif (eqL 4 y3.1 y8 && true) then
    bif (y3.2 == 1) then
      (f49.F K ()).bind fun y10 =>
      bif (eqL 4 y6.1 y10 && true) then
        bif (y6.2 == 1) then
          (f50.F K ()).bind fun y12 =>
          bif (eqL 4 y7.1 y12 && true) then
            (f46.F K 1).bind fun y14 =>
            bif (eqL 4 y7.2 y14 && true) then
              (f46.F K 5).bind fun y16 =>
              (f38.F K (y16, 64)).bind fun y17 =>
              bif (eqL 4 y17 [0, 5, 0, 0] && true) then
                (f38.F K ([0, 0, 0, 9223372036854775808], (-255))).bind fun y19 =>
                (f46.F K 1).bind fun y20 =>
                bif (eqL 4 y19 y20 && true) then
                  (f50.F K ()).bind fun y22 =>
                  (f42.F K y22).bind fun y23 =>
                  bif (y23 == 0) then
                    (f42.F K [0, 1, 0, 0]).bind fun y24 =>
                    bif (y24 == 65) then
                      (f46.F K 4).bind fun y25 =>
                      (f40.F K (y25, 2)).bind fun y26 =>
                      bif (y26 == 1) then
                        (f46.F K 4).bind fun y27 =>
                        (f40.F K (y27, 256)).bind fun y28 =>
                        bif (y28 == 0) then
                          (f46.F K 3).bind fun y29 =>
                          (f46.F K 5).bind fun y30 =>
                          (f44.F K (y29, y30)).bind fun y31 =>
                          some (y31 == (-1))
                        else
                          some false
                      else
                        some false
                    else
                      some false
                  else
                    some false
                else
                  some false
              else
                some false
            else
              some false
          else
            some false
        else
          some false
      else
        some false
    else
      some false
  else
    some false
def f51.F (K : Nat) (_x : Unit) : Option (Bool) := f51.T K 
def f51.mk (y : Bool) : VV := .bool y
def f51.inA : List VV → Option (Unit)
  | [] => some ()
  | _ => none
def f51.shp (_x : Unit) : List VV := []
def f51.inR : VV → Option (Bool)
  | .bool y => some y
  | _ => none
noncomputable def f51.E (K : Nat) : Entry := pureE f51.inA (f51.F K) f51.mk
theorem f51.eq (K : Nat) (x : Unit) : f51.F K x = xrun (getA tys) (tabSp (f51.tab K)) Try.f51.ntmps 0 (f51.lp K) 400 f51.c ⟨initL 0 (f51.shp x), [], 0⟩ (contF (getA tys) Try.f51.results.toList fun v _ => f51.inR v) := by kernel_rfl
theorem f51.ok (K : Nat) : EntryOK Try.prog 51 (f51.E K) :=
  pure_ok mix tys_ok (f51.tabOK K) Try.func51 (by kernel_rfl : Try.f51.body = some f51.c) (by kernel_rfl) (f51.loops K) (shp := f51.shp) (fuel := 400)
    (by intro vs x h; unfold f51.inA at h; split at h <;> simp at h; rfl) (by intro v y h; unfold f51.inR at h; split at h <;> simp at h; subst h; exact ⟨rfl, rfl⟩)
    (by intro x; exact ⟨Nat.le_of_ble_eq_true rfl, rfl⟩) (f51.eq K)
end Go.Proofs

namespace Go.Proofs
open Go.VM
/-! ### burrow/burrowlaw02.LimbsTurned -/
noncomputable def f4.c : Code := bodyOf Try.f4
def f4.lp (_ : Nat) : Nat → Option (Hint × Summ) := fun _ => none
noncomputable def f4.tab (K : Nat) : List (Nat × Entry) := [(48, f48.E K), (32, f32.E K), (49, f49.E K), (34, f34.E K), (50, f50.E K), (46, f46.E K), (51, f51.E K)]
theorem f4.tabOK (K : Nat) : SpecOK Try.prog (tabSp (f4.tab K)) := tab_ok ((tab_cons (f48.ok K) (tab_cons (f32.ok K) (tab_cons (f49.ok K) (tab_cons (f34.ok K) (tab_cons (f50.ok K) (tab_cons (f46.ok K) (tab_cons (f51.ok K) tab_nil))))))))
theorem f4.loops (K : Nat) : LoopsOK Try.prog 77 0 (f4.lp K) f4.c := loops_ok (by
  have h : loopsIn (f4.lp K) f4.c = [] := by kernel_rfl
  rw [h]; simp)
def f4.T (K : Nat) (a0 : List Int) : Option (Bool) :=
  (f48.F K a0).bind fun y1 =>
  (f32.F K (a0, y1)).bind fun y2 =>
  (f49.F K ()).bind fun y3 =>
  (f34.F K (y3, a0)).bind fun y4 =>
  (f50.F K ()).bind fun y5 =>
  (f34.F K (y5, a0)).bind fun y6 =>
  (f46.F K 1).bind fun y7 =>
  (f32.F K (y1, y7)).bind fun y8 =>
  (f50.F K ()).bind fun y9 =>
  bif (eqL 4 a0 y9 && true) then
    (f51.F K ()).bind fun y11 =>
    bif y11 then
      (f49.F K ()).bind fun y12 =>
      bif (eqL 4 y2.1 y12 && true) then
        bif (y2.2 == 0) then
          bif (eqL 4 y4.1 y1 && true) then
            bif (y4.2 == 0) then
              bif (eqL 4 y6.1 y8.1 && true) then
                bif (y6.2 == 0) then
                  some (y8.2 == 1)
                else
                  some false
              else
                some false
            else
              some false
          else
            some false
        else
          some false
      else
        some false
    else
      some false
  else
    (f51.F K ()).bind fun y16 =>
    bif y16 then
      (f49.F K ()).bind fun y17 =>
      bif (eqL 4 y2.1 y17 && true) then
        bif (y2.2 == 0) then
          bif (eqL 4 y4.1 y1 && true) then
            bif (y4.2 == 0) then
              bif (eqL 4 y6.1 y8.1 && true) then
                bif (y6.2 == 1) then
                  some (y8.2 == 0)
                else
                  some false
              else
                some false
            else
              some false
          else
            some false
        else
          some false
      else
        some false
    else
      some false
def f4.F (K : Nat) (x : List Int) : Option (Bool) := f4.T K x
def f4.mk (y : Bool) : VV := .bool y
def f4.inA : List VV → Option (List Int)
  | [.agg [.ints .u64 4 a0]] => some a0
  | _ => none
def f4.shp (x : List Int) : List VV := [.agg [.ints .u64 4 x]]
def f4.inR : VV → Option (Bool)
  | .bool y => some y
  | _ => none
noncomputable def f4.E (K : Nat) : Entry := pureE f4.inA (f4.F K) f4.mk
theorem f4.eq (K : Nat) (x : List Int) : f4.F K x = xrun (getA tys) (tabSp (f4.tab K)) Try.f4.ntmps 0 (f4.lp K) 400 f4.c ⟨initL 0 (f4.shp x), [], 0⟩ (contF (getA tys) Try.f4.results.toList fun v _ => f4.inR v) := by kernel_rfl
theorem f4.ok (K : Nat) : EntryOK Try.prog 4 (f4.E K) :=
  pure_ok mix tys_ok (f4.tabOK K) Try.func4 (by kernel_rfl : Try.f4.body = some f4.c) (by kernel_rfl) (f4.loops K) (shp := f4.shp) (fuel := 400)
    (by intro vs x h; unfold f4.inA at h; split at h <;> simp at h; subst h; rfl) (by intro v y h; unfold f4.inR at h; split at h <;> simp at h; subst h; exact ⟨rfl, rfl⟩)
    (by intro x; exact ⟨Nat.le_of_ble_eq_true rfl, rfl⟩) (f4.eq K)
end Go.Proofs

namespace Go.Proofs
open Go.VM
/-! ### burrow/burrowlaw02.LimbsApart -/
noncomputable def f6.c : Code := bodyOf Try.f6
def f6.lp (_ : Nat) : Nat → Option (Hint × Summ) := fun _ => none
noncomputable def f6.tab (K : Nat) : List (Nat × Entry) := [(34, f34.E K), (32, f32.E K), (44, f44.E K), (51, f51.E K), (50, f50.E K)]
theorem f6.tabOK (K : Nat) : SpecOK Try.prog (tabSp (f6.tab K)) := tab_ok ((tab_cons (f34.ok K) (tab_cons (f32.ok K) (tab_cons (f44.ok K) (tab_cons (f51.ok K) (tab_cons (f50.ok K) tab_nil))))))
theorem f6.loops (K : Nat) : LoopsOK Try.prog 88 0 (f6.lp K) f6.c := loops_ok (by
  have h : loopsIn (f6.lp K) f6.c = [] := by kernel_rfl
  rw [h]; simp)
def f6.T (K : Nat) (a0 : List Int) (a1 : List Int) : Option (Bool) :=
  (f34.F K (a0, a1)).bind fun y1 =>
  (f34.F K (a1, a0)).bind fun y2 =>
  (f32.F K (y1.1, y2.1)).bind fun y3 =>
  (f44.F K (a0, a1)).bind fun y4 =>
  bif (eqL 4 a0 a1 && true) then
    (f51.F K ()).bind fun y6 =>
    bif y6 then
      bif (y4 == 0) then
        bif (y1.2 == 0) then
          bif (y2.2 == 0) then
            (f50.F K ()).bind fun y7 =>
            some (eqL 4 y1.1 y7 && true)
          else
            some false
        else
          some false
      else
        some false
    else
      some false
  else
    (f51.F K ()).bind fun y9 =>
    bif y9 then
      (f50.F K ()).bind fun y10 =>
      bif (eqL 4 y3.1 y10 && true) then
        bif ((IntKind.wrap .u64 (y1.2 + y2.2)) == 1) then
          bif ((y4 == (-1)) == (y1.2 == 1)) then
            bif ((y4 == 1) == (y2.2 == 1)) then
              (f44.F K (a1, a0)).bind fun y16 =>
              some (y16 == (IntKind.wrap .i64 (0 - y4)))
            else
              some false
          else
            some false
        else
          some false
      else
        some false
    else
      some false
def f6.F (K : Nat) (x : List Int × List Int) : Option (Bool) := f6.T K x.1 x.2
def f6.mk (y : Bool) : VV := .bool y
def f6.inA : List VV → Option (List Int × List Int)
  | [.agg [.ints .u64 4 a0], .agg [.ints .u64 4 a1]] => some (a0, a1)
  | _ => none
def f6.shp (x : List Int × List Int) : List VV := [.agg [.ints .u64 4 x.1], .agg [.ints .u64 4 x.2]]
def f6.inR : VV → Option (Bool)
  | .bool y => some y
  | _ => none
noncomputable def f6.E (K : Nat) : Entry := pureE f6.inA (f6.F K) f6.mk
theorem f6.eq (K : Nat) (x : List Int × List Int) : f6.F K x = xrun (getA tys) (tabSp (f6.tab K)) Try.f6.ntmps 0 (f6.lp K) 400 f6.c ⟨initL 0 (f6.shp x), [], 0⟩ (contF (getA tys) Try.f6.results.toList fun v _ => f6.inR v) := by kernel_rfl
theorem f6.ok (K : Nat) : EntryOK Try.prog 6 (f6.E K) :=
  pure_ok mix tys_ok (f6.tabOK K) Try.func6 (by kernel_rfl : Try.f6.body = some f6.c) (by kernel_rfl) (f6.loops K) (shp := f6.shp) (fuel := 400)
    (by intro vs x h; unfold f6.inA at h; split at h <;> simp at h; subst h; rfl) (by intro v y h; unfold f6.inR at h; split at h <;> simp at h; subst h; exact ⟨rfl, rfl⟩)
    (by intro x; exact ⟨Nat.le_of_ble_eq_true rfl, rfl⟩) (f6.eq K)
end Go.Proofs

namespace Go.Proofs
open Go.VM
/-! ### burrow/burrowlaw02.LimbsSquares -/
noncomputable def f7.c : Code := bodyOf Try.f7
def f7.lp (_ : Nat) : Nat → Option (Hint × Summ) := fun _ => none
noncomputable def f7.tab (K : Nat) : List (Nat × Entry) := [(36, f36.E K), (34, f34.E K), (32, f32.E K), (51, f51.E K)]
theorem f7.tabOK (K : Nat) : SpecOK Try.prog (tabSp (f7.tab K)) := tab_ok ((tab_cons (f36.ok K) (tab_cons (f34.ok K) (tab_cons (f32.ok K) (tab_cons (f51.ok K) tab_nil)))))
theorem f7.loops (K : Nat) : LoopsOK Try.prog 59 0 (f7.lp K) f7.c := loops_ok (by
  have h : loopsIn (f7.lp K) f7.c = [] := by kernel_rfl
  rw [h]; simp)
def f7.T (K : Nat) (a0 : List Int) (a1 : List Int) : Option (Bool) :=
  (f36.F K (a0, a0)).bind fun y1 =>
  (f36.F K (a1, a1)).bind fun y2 =>
  (f34.F K (y1.1, y2.1)).bind fun y3 =>
  (f32.F K (a0, a1)).bind fun y4 =>
  (f34.F K (a0, a1)).bind fun y5 =>
  (f36.F K (y4.1, y5.1)).bind fun y6 =>
  (f51.F K ()).bind fun y7 =>
  bif y7 then
    some (eqL 4 y3.1 y6.1 && true)
  else
    some false
def f7.F (K : Nat) (x : List Int × List Int) : Option (Bool) := f7.T K x.1 x.2
def f7.mk (y : Bool) : VV := .bool y
def f7.inA : List VV → Option (List Int × List Int)
  | [.agg [.ints .u64 4 a0], .agg [.ints .u64 4 a1]] => some (a0, a1)
  | _ => none
def f7.shp (x : List Int × List Int) : List VV := [.agg [.ints .u64 4 x.1], .agg [.ints .u64 4 x.2]]
def f7.inR : VV → Option (Bool)
  | .bool y => some y
  | _ => none
noncomputable def f7.E (K : Nat) : Entry := pureE f7.inA (f7.F K) f7.mk
theorem f7.eq (K : Nat) (x : List Int × List Int) : f7.F K x = xrun (getA tys) (tabSp (f7.tab K)) Try.f7.ntmps 0 (f7.lp K) 400 f7.c ⟨initL 0 (f7.shp x), [], 0⟩ (contF (getA tys) Try.f7.results.toList fun v _ => f7.inR v) := by kernel_rfl
theorem f7.ok (K : Nat) : EntryOK Try.prog 7 (f7.E K) :=
  pure_ok mix tys_ok (f7.tabOK K) Try.func7 (by kernel_rfl : Try.f7.body = some f7.c) (by kernel_rfl) (f7.loops K) (shp := f7.shp) (fuel := 400)
    (by intro vs x h; unfold f7.inA at h; split at h <;> simp at h; subst h; rfl) (by intro v y h; unfold f7.inR at h; split at h <;> simp at h; subst h; exact ⟨rfl, rfl⟩)
    (by intro x; exact ⟨Nat.le_of_ble_eq_true rfl, rfl⟩) (f7.eq K)
end Go.Proofs

namespace Go.Proofs
open Go.VM
/-! ### burrow/burrowlaw02.LimbsMoves -/
noncomputable def f9.c : Code := bodyOf Try.f9
def f9.lp (_ : Nat) : Nat → Option (Hint × Summ) := fun _ => none
noncomputable def f9.tab (K : Nat) : List (Nat × Entry) := [(38, f38.E K), (32, f32.E K), (34, f34.E K), (51, f51.E K), (40, f40.E K), (42, f42.E K)]
theorem f9.tabOK (K : Nat) : SpecOK Try.prog (tabSp (f9.tab K)) := tab_ok ((tab_cons (f38.ok K) (tab_cons (f32.ok K) (tab_cons (f34.ok K) (tab_cons (f51.ok K) (tab_cons (f40.ok K) (tab_cons (f42.ok K) tab_nil)))))))
theorem f9.loops (K : Nat) : LoopsOK Try.prog 106 0 (f9.lp K) f9.c := loops_ok (by
  have h : loopsIn (f9.lp K) f9.c = [] := by kernel_rfl
  rw [h]; simp)
def f9.T (K : Nat) (a0 : List Int) (a1 : Int) (a2 : Int) : Option (Bool) :=
  (f38.F K (a0, (IntKind.wrap .i64 a1))).bind fun y2 =>
  (f38.F K (y2, (IntKind.wrap .i64 a2))).bind fun y4 =>
  (f38.F K (a0, (IntKind.wrap .i64 (0 - (IntKind.wrap .i64 a1))))).bind fun y7 =>
  (f38.F K (y7, (IntKind.wrap .i64 (0 - (IntKind.wrap .i64 a2))))).bind fun y10 =>
  (f32.F K (a0, a0)).bind fun y11 =>
  (f38.F K (a0, (IntKind.wrap .i64 (0 - (IntKind.wrap .i64 a1))))).bind fun y14 =>
  (f38.F K (y14, (IntKind.wrap .i64 a1))).bind fun y16 =>
  (f34.F K (a0, y16)).bind fun y17 =>
  (f51.F K ()).bind fun y18 =>
  bif y18 then
    (f38.F K (a0, (IntKind.wrap .i64 ((IntKind.wrap .i64 a1) + (IntKind.wrap .i64 a2))))).bind fun y22 =>
    bif (eqL 4 y4 y22 && true) then
      (f38.F K (a0, (IntKind.wrap .i64 ((IntKind.wrap .i64 (0 - (IntKind.wrap .i64 a1))) - (IntKind.wrap .i64 a2))))).bind fun y28 =>
      bif (eqL 4 y10 y28 && true) then
        (f38.F K (a0, 1)).bind fun y30 =>
        bif (eqL 4 y11.1 y30 && true) then
          (f40.F K (a0, 255)).bind fun y32 =>
          bif (y11.2 == y32) then
            (f42.F K y17.1).bind fun y34 =>
            bif (decide (y34 ≤ (IntKind.wrap .i64 a1))) then
              (f38.F K (a0, (IntKind.wrap .i64 (256 - (IntKind.wrap .i64 a1))))).bind fun y39 =>
              (f38.F K (y39, (IntKind.wrap .i64 ((IntKind.wrap .i64 a1) - 256)))).bind fun y42 =>
              some (eqL 4 y17.1 y42 && true)
            else
              some false
          else
            some false
        else
          some false
      else
        some false
    else
      some false
  else
    some false
def f9.F (K : Nat) (x : List Int × Int × Int) : Option (Bool) := f9.T K x.1 x.2.1 x.2.2
def f9.mk (y : Bool) : VV := .bool y
def f9.inA : List VV → Option (List Int × Int × Int)
  | [.agg [.ints .u64 4 a0], .int .u8 a1, .int .u8 a2] => some (a0, a1, a2)
  | _ => none
def f9.shp (x : List Int × Int × Int) : List VV := [.agg [.ints .u64 4 x.1], .int .u8 x.2.1, .int .u8 x.2.2]
def f9.inR : VV → Option (Bool)
  | .bool y => some y
  | _ => none
noncomputable def f9.E (K : Nat) : Entry := pureE f9.inA (f9.F K) f9.mk
theorem f9.eq (K : Nat) (x : List Int × Int × Int) : f9.F K x = xrun (getA tys) (tabSp (f9.tab K)) Try.f9.ntmps 0 (f9.lp K) 400 f9.c ⟨initL 0 (f9.shp x), [], 0⟩ (contF (getA tys) Try.f9.results.toList fun v _ => f9.inR v) := by kernel_rfl
theorem f9.ok (K : Nat) : EntryOK Try.prog 9 (f9.E K) :=
  pure_ok mix tys_ok (f9.tabOK K) Try.func9 (by kernel_rfl : Try.f9.body = some f9.c) (by kernel_rfl) (f9.loops K) (shp := f9.shp) (fuel := 400)
    (by intro vs x h; unfold f9.inA at h; split at h <;> simp at h; subst h; rfl) (by intro v y h; unfold f9.inR at h; split at h <;> simp at h; subst h; exact ⟨rfl, rfl⟩)
    (by intro x; exact ⟨Nat.le_of_ble_eq_true rfl, rfl⟩) (f9.eq K)
end Go.Proofs

namespace Go.Proofs
open Go.VM
/-! ### burrow/burrowlaw02.LimbsSteps -/
noncomputable def f5.c : Code := bodyOf Try.f5
def f5.s0t (K : Nat) (rec : Int × List Int × List Int × List Int × List Int → Option (List Int × List Int × List Int × List Int)) (t7 : Int) (b0 : List Int) (b1 : List Int) (b2 : List Int) (b3 : List Int) : Option (List Int × List Int × List Int × List Int) :=
  bif (decide (t7 < 256)) then
    (f40.F K (b1, t7)).bind fun y24 =>
    bif (y24 == 0) then
      rec ((IntKind.wrap .i64 (t7 + 1)), b0, b1, b2, b3)
    else
      (f38.F K (b0, t7)).bind fun y26 =>
      (f32.F K (b2, y26)).bind fun y27 =>
      (f46.F K y27.2).bind fun y28 =>
      (f32.F K (b3, y28)).bind fun y29 =>
      (f38.F K (b0, (IntKind.wrap .i64 (t7 - 256)))).bind fun y31 =>
      (f32.F K (y29.1, y31)).bind fun y32 =>
      rec ((IntKind.wrap .i64 (t7 + 1)), b0, b1, y27.1, y32.1)
  else
    some (b0, b1, b2, b3)
def f5.s0 (K : Nat) (rec : Int × List Int × List Int × List Int × List Int → Option (List Int × List Int × List Int × List Int)) (x : Int × List Int × List Int × List Int × List Int) : Option (List Int × List Int × List Int × List Int) := f5.s0t K rec x.1 x.2.1 x.2.2.1 x.2.2.2.1 x.2.2.2.2
noncomputable def f5.s0.b : Code := (findLoop 0 f5.c).getD .skip
def f5.s0.h : Hint := ⟨[2, 3, 5, 6, 7], [0, 1, 2, 3], 4⟩
def f5.s0.ho : Hint := ⟨[2, 3, 5, 6], [0, 1, 2, 3], 4⟩
def f5.s0.shp (x : Int × List Int × List Int × List Int × List Int) : VS := ⟨[(2, .ptr 0 0), (3, .ptr 1 0), (5, .ptr 2 0), (6, .ptr 3 0), (7, .int .i64 x.1)], [(0, ([.ints .u64 4 x.2.1], 24)), (1, ([.ints .u64 4 x.2.2.1], 24)), (2, ([.ints .u64 4 x.2.2.2.1], 24)), (3, ([.ints .u64 4 x.2.2.2.2], 24))], 4⟩
def f5.s0.inX : VS → Option (Int × List Int × List Int × List Int × List Int)
  | ⟨[(2, .ptr 0 0), (3, .ptr 1 0), (5, .ptr 2 0), (6, .ptr 3 0), (7, .int .i64 t7)], [(0, ([.ints .u64 4 b0], 24)), (1, ([.ints .u64 4 b1], 24)), (2, ([.ints .u64 4 b2], 24)), (3, ([.ints .u64 4 b3], 24))], 4⟩ => some (t7, b0, b1, b2, b3)
  | _ => none
def f5.s0.out (y : List Int × List Int × List Int × List Int) : Ex × VS := (.exit 0, ⟨[(2, .ptr 0 0), (3, .ptr 1 0), (5, .ptr 2 0), (6, .ptr 3 0)], [(0, ([.ints .u64 4 y.1], 24)), (1, ([.ints .u64 4 y.2.1], 24)), (2, ([.ints .u64 4 y.2.2.1], 24)), (3, ([.ints .u64 4 y.2.2.2], 24))], 4⟩)
def f5.s0.inY : Ex → VS → Option (List Int × List Int × List Int × List Int)
  | .exit 0, ⟨[(2, .ptr 0 0), (3, .ptr 1 0), (5, .ptr 2 0), (6, .ptr 3 0)], [(0, ([.ints .u64 4 b0], 24)), (1, ([.ints .u64 4 b1], 24)), (2, ([.ints .u64 4 b2], 24)), (3, ([.ints .u64 4 b3], 24))], 4⟩ => some (b0, b1, b2, b3)
  | _, _ => none
def f5.lp (K : Nat) : Nat → Option (Hint × Summ) := tabLp [(0, f5.s0.h, summOf (iter (f5.s0 K) K) f5.s0.inX f5.s0.out)]
noncomputable def f5.tab (K : Nat) : List (Nat × Entry) := [(40, f40.E K), (38, f38.E K), (32, f32.E K), (46, f46.E K), (36, f36.E K), (51, f51.E K)]
theorem f5.tabOK (K : Nat) : SpecOK Try.prog (tabSp (f5.tab K)) := tab_ok ((tab_cons (f40.ok K) (tab_cons (f38.ok K) (tab_cons (f32.ok K) (tab_cons (f46.ok K) (tab_cons (f36.ok K) (tab_cons (f51.ok K) tab_nil)))))))
theorem f5.s0.eq (K : Nat) (rec : Int × List Int × List Int × List Int × List Int → Option (List Int × List Int × List Int × List Int)) (x : Int × List Int × List Int × List Int × List Int) : f5.s0 K rec x = roundL (getA tys) (tabSp (f5.tab K)) 60 0 (f5.lp K) 400 f5.s0.b f5.s0.h f5.s0.ho f5.s0.shp f5.s0.inX f5.s0.inY rec x := by kernel_rfl
theorem f5.s0.lok (K : Nat) : LoopsOK Try.prog 60 0 (f5.lp K) f5.s0.b := loops_ok (by
  have h : loopsIn (f5.lp K) f5.s0.b = [] := by kernel_rfl
  rw [h]; simp)
theorem f5.s0.ok (K : Nat) : SummOK Try.prog 60 0 (summOf (iter (f5.s0 K) K) f5.s0.inX f5.s0.out) f5.s0.h f5.s0.b := by
  exact loop_ok mix tys_ok (f5.tabOK K) (h := f5.s0.h) (ho := f5.s0.ho) (shp := f5.s0.shp) (inX := f5.s0.inX) (out := f5.s0.out) (inY := f5.s0.inY) (fuel := 400)
    (by intro st x h; unfold f5.s0.inX at h; split at h <;> simp at h; subst h; rfl)
    (by intro e st y h; unfold f5.s0.inY at h; split at h <;> simp at h <;> subst h <;> rfl)
    (f5.s0.lok K) (f5.s0 K) (f5.s0.eq K) K
theorem f5.loops (K : Nat) : LoopsOK Try.prog 60 0 (f5.lp K) f5.c := loops_ok (by
  have h : loopsIn (f5.lp K) f5.c = [(0, f5.s0.b)] := by kernel_rfl
  rw [h]
  intro p hp
  simp only [List.mem_cons, List.not_mem_nil, or_false] at hp
  rcases hp with rfl
  · exact ⟨_, rfl, f5.s0.ok K⟩)
def f5.T (K : Nat) (a0 : List Int) (a1 : List Int) : Option (Bool) :=
  (iter (f5.s0 K) K (0, a0, a1, [0, 0, 0, 0], [0, 0, 0, 0])).bind fun y34 =>
  (f36.F K (y34.1, y34.2.1)).bind fun y35 =>
  (f51.F K ()).bind fun y36 =>
  bif y36 then
    bif (eqL 4 y35.1 y34.2.2.1 && true) then
      some (eqL 4 y35.2 y34.2.2.2 && true)
    else
      some false
  else
    some false
def f5.F (K : Nat) (x : List Int × List Int) : Option (Bool) := f5.T K x.1 x.2
def f5.mk (y : Bool) : VV := .bool y
def f5.inA : List VV → Option (List Int × List Int)
  | [.agg [.ints .u64 4 a0], .agg [.ints .u64 4 a1]] => some (a0, a1)
  | _ => none
def f5.shp (x : List Int × List Int) : List VV := [.agg [.ints .u64 4 x.1], .agg [.ints .u64 4 x.2]]
def f5.inR : VV → Option (Bool)
  | .bool y => some y
  | _ => none
noncomputable def f5.E (K : Nat) : Entry := pureE f5.inA (f5.F K) f5.mk
theorem f5.eq (K : Nat) (x : List Int × List Int) : f5.F K x = xrun (getA tys) (tabSp (f5.tab K)) Try.f5.ntmps 0 (f5.lp K) 400 f5.c ⟨initL 0 (f5.shp x), [], 0⟩ (contF (getA tys) Try.f5.results.toList fun v _ => f5.inR v) := by kernel_rfl
theorem f5.ok (K : Nat) : EntryOK Try.prog 5 (f5.E K) :=
  pure_ok mix tys_ok (f5.tabOK K) Try.func5 (by kernel_rfl : Try.f5.body = some f5.c) (by kernel_rfl) (f5.loops K) (shp := f5.shp) (fuel := 400)
    (by intro vs x h; unfold f5.inA at h; split at h <;> simp at h; subst h; rfl) (by intro v y h; unfold f5.inR at h; split at h <;> simp at h; subst h; exact ⟨rfl, rfl⟩)
    (by intro x; exact ⟨Nat.le_of_ble_eq_true rfl, rfl⟩) (f5.eq K)
end Go.Proofs

namespace Go.Proofs
open Go.VM
/-! ### burrow/burrowref02.Add -/
noncomputable def f33.c : Code := bodyOf Try.f33
def f33.s0t (_K : Nat) (rec : Int × Int × List Int × List Int × List Int → Option (Int × List Int × List Int)) (t6 : Int) (t7 : Int) (b0 : List Int) (b1 : List Int) (b2 : List Int) : Option (Int × List Int × List Int) :=
  bif (decide (t7 < 4)) then
    bif decide (0 ≤ t7 ∧ t7 < 4) then
      bif decide (0 ≤ t7 ∧ t7 < 4) then
        let v32 := IntKind.wrap .u64 ((List.getD b0 (Int.toNat t7) 0) + (List.getD b1 (Int.toNat t7) 0))
        let v33 := IntKind.wrap .u64 (v32 + t6)
        bif decide (0 ≤ t7 ∧ t7 < 4) then
          bif (decide (v32 < (List.getD b1 (Int.toNat t7) 0))) then
            bif decide (0 ≤ t7 ∧ t7 < 4) then
              rec (1, (IntKind.wrap .i64 (t7 + 1)), (setD b0 (Int.toNat t7) v33), b1, b2)
            else
              none
          else
            bif (decide (v33 < t6)) then
              bif decide (0 ≤ t7 ∧ t7 < 4) then
                rec (1, (IntKind.wrap .i64 (t7 + 1)), (setD b0 (Int.toNat t7) v33), b1, b2)
              else
                none
            else
              bif decide (0 ≤ t7 ∧ t7 < 4) then
                rec (0, (IntKind.wrap .i64 (t7 + 1)), (setD b0 (Int.toNat t7) v33), b1, b2)
              else
                none
        else
          none
      else
        none
    else
      none
  else
    some (t6, b0, b2)
def f33.s0 (K : Nat) (rec : Int × Int × List Int × List Int × List Int → Option (Int × List Int × List Int)) (x : Int × Int × List Int × List Int × List Int) : Option (Int × List Int × List Int) := f33.s0t K rec x.1 x.2.1 x.2.2.1 x.2.2.2.1 x.2.2.2.2
noncomputable def f33.s0.b : Code := (findLoop 0 f33.c).getD .skip
def f33.s0.h : Hint := ⟨[2, 3, 4, 6, 7], [0, 1, 2], 3⟩
def f33.s0.ho : Hint := ⟨[2, 4, 6], [0, 2], 3⟩
def f33.s0.shp (x : Int × Int × List Int × List Int × List Int) : VS := ⟨[(2, .ptr 0 0), (3, .ptr 1 0), (4, .ptr 2 0), (6, .int .u64 x.1), (7, .int .i64 x.2.1)], [(0, ([.ints .u64 4 x.2.2.1], 24)), (1, ([.ints .u64 4 x.2.2.2.1], 24)), (2, ([.ints .u64 4 x.2.2.2.2], 24))], 3⟩
def f33.s0.inX : VS → Option (Int × Int × List Int × List Int × List Int)
  | ⟨[(2, .ptr 0 0), (3, .ptr 1 0), (4, .ptr 2 0), (6, .int .u64 t6), (7, .int .i64 t7)], [(0, ([.ints .u64 4 b0], 24)), (1, ([.ints .u64 4 b1], 24)), (2, ([.ints .u64 4 b2], 24))], 3⟩ => some (t6, t7, b0, b1, b2)
  | _ => none
def f33.s0.out (y : Int × List Int × List Int) : Ex × VS := (.exit 0, ⟨[(2, .ptr 0 0), (4, .ptr 2 0), (6, .int .u64 y.1)], [(0, ([.ints .u64 4 y.2.1], 24)), (2, ([.ints .u64 4 y.2.2], 24))], 3⟩)
def f33.s0.inY : Ex → VS → Option (Int × List Int × List Int)
  | .exit 0, ⟨[(2, .ptr 0 0), (4, .ptr 2 0), (6, .int .u64 t6)], [(0, ([.ints .u64 4 b0], 24)), (2, ([.ints .u64 4 b2], 24))], 3⟩ => some (t6, b0, b2)
  | _, _ => none
def f33.lp (K : Nat) : Nat → Option (Hint × Summ) := tabLp [(0, f33.s0.h, summOf (iter (f33.s0 K) K) f33.s0.inX f33.s0.out)]
noncomputable def f33.tab (_K : Nat) : List (Nat × Entry) := []
theorem f33.tabOK (K : Nat) : SpecOK Try.prog (tabSp (f33.tab K)) := tab_ok tab_nil
theorem f33.s0.eq (K : Nat) (rec : Int × Int × List Int × List Int × List Int → Option (Int × List Int × List Int)) (x : Int × Int × List Int × List Int × List Int) : f33.s0 K rec x = roundL (getA tys) (tabSp (f33.tab K)) 39 0 (f33.lp K) 400 f33.s0.b f33.s0.h f33.s0.ho f33.s0.shp f33.s0.inX f33.s0.inY rec x := by kernel_rfl
theorem f33.s0.lok (K : Nat) : LoopsOK Try.prog 39 0 (f33.lp K) f33.s0.b := loops_ok (by
  have h : loopsIn (f33.lp K) f33.s0.b = [] := by kernel_rfl
  rw [h]; simp)
theorem f33.s0.ok (K : Nat) : SummOK Try.prog 39 0 (summOf (iter (f33.s0 K) K) f33.s0.inX f33.s0.out) f33.s0.h f33.s0.b := by
  exact loop_ok mix tys_ok (f33.tabOK K) (h := f33.s0.h) (ho := f33.s0.ho) (shp := f33.s0.shp) (inX := f33.s0.inX) (out := f33.s0.out) (inY := f33.s0.inY) (fuel := 400)
    (by intro st x h; unfold f33.s0.inX at h; split at h <;> simp at h; subst h; rfl)
    (by intro e st y h; unfold f33.s0.inY at h; split at h <;> simp at h <;> subst h <;> rfl)
    (f33.s0.lok K) (f33.s0 K) (f33.s0.eq K) K
theorem f33.loops (K : Nat) : LoopsOK Try.prog 39 0 (f33.lp K) f33.c := loops_ok (by
  have h : loopsIn (f33.lp K) f33.c = [(0, f33.s0.b)] := by kernel_rfl
  rw [h]
  intro p hp
  simp only [List.mem_cons, List.not_mem_nil, or_false] at hp
  rcases hp with rfl
  · exact ⟨_, rfl, f33.s0.ok K⟩)
def f33.T (K : Nat) (a0 : List Int) (a1 : List Int) : Option (List Int × Int) :=
  (iter (f33.s0 K) K (0, 0, a0, a1, [0, 0, 0, 0])).bind fun y43 =>
  some (y43.2.1, y43.1)
def f33.F (K : Nat) (x : List Int × List Int) : Option (List Int × Int) := f33.T K x.1 x.2
def f33.mk (y : List Int × Int) : VV := .tup [.agg [.ints .u64 4 y.1], .int .u64 y.2]
def f33.inA : List VV → Option (List Int × List Int)
  | [.agg [.ints .u64 4 a0], .agg [.ints .u64 4 a1]] => some (a0, a1)
  | _ => none
def f33.shp (x : List Int × List Int) : List VV := [.agg [.ints .u64 4 x.1], .agg [.ints .u64 4 x.2]]
def f33.inR : VV → Option (List Int × Int)
  | .tup [.agg [.ints .u64 4 y0], .int .u64 y1] => some (y0, y1)
  | _ => none
noncomputable def f33.E (K : Nat) : Entry := pureE f33.inA (f33.F K) f33.mk
theorem f33.eq (K : Nat) (x : List Int × List Int) : f33.F K x = xrun (getA tys) (tabSp (f33.tab K)) Try.f33.ntmps 0 (f33.lp K) 400 f33.c ⟨initL 0 (f33.shp x), [], 0⟩ (contF (getA tys) Try.f33.results.toList fun v _ => f33.inR v) := by kernel_rfl
theorem f33.ok (K : Nat) : EntryOK Try.prog 33 (f33.E K) :=
  pure_ok mix tys_ok (f33.tabOK K) Try.func33 (by kernel_rfl : Try.f33.body = some f33.c) (by kernel_rfl) (f33.loops K) (shp := f33.shp) (fuel := 400)
    (by intro vs x h; unfold f33.inA at h; split at h <;> simp at h; subst h; rfl) (by intro v y h; unfold f33.inR at h; split at h <;> simp at h; subst h; exact ⟨rfl, rfl⟩)
    (by intro x; exact ⟨Nat.le_of_ble_eq_true rfl, rfl⟩) (f33.eq K)
end Go.Proofs

namespace Go.Proofs
open Go.VM
/-! ### burrow/burrowref02.Sub -/
noncomputable def f35.c : Code := bodyOf Try.f35
def f35.s0t (_K : Nat) (rec : Int × Int × List Int × List Int × List Int → Option (Int × List Int × List Int)) (t6 : Int) (t7 : Int) (b0 : List Int) (b1 : List Int) (b2 : List Int) : Option (Int × List Int × List Int) :=
  bif (decide (t7 < 4)) then
    bif decide (0 ≤ t7 ∧ t7 < 4) then
      bif decide (0 ≤ t7 ∧ t7 < 4) then
        let v34 := IntKind.wrap .u64 ((List.getD b0 (Int.toNat t7) 0) - (List.getD b1 (Int.toNat t7) 0))
        let v35 := IntKind.wrap .u64 (v34 - t6)
        bif decide (0 ≤ t7 ∧ t7 < 4) then
          bif decide (0 ≤ t7 ∧ t7 < 4) then
            bif (decide ((List.getD b0 (Int.toNat t7) 0) < (List.getD b1 (Int.toNat t7) 0))) then
              bif decide (0 ≤ t7 ∧ t7 < 4) then
                rec (1, (IntKind.wrap .i64 (t7 + 1)), (setD b0 (Int.toNat t7) v35), b1, b2)
              else
                none
            else
              bif (decide (v34 < t6)) then
                bif decide (0 ≤ t7 ∧ t7 < 4) then
                  rec (1, (IntKind.wrap .i64 (t7 + 1)), (setD b0 (Int.toNat t7) v35), b1, b2)
                else
                  none
              else
                bif decide (0 ≤ t7 ∧ t7 < 4) then
                  rec (0, (IntKind.wrap .i64 (t7 + 1)), (setD b0 (Int.toNat t7) v35), b1, b2)
                else
                  none
          else
            none
        else
          none
      else
        none
    else
      none
  else
    some (t6, b0, b2)
def f35.s0 (K : Nat) (rec : Int × Int × List Int × List Int × List Int → Option (Int × List Int × List Int)) (x : Int × Int × List Int × List Int × List Int) : Option (Int × List Int × List Int) := f35.s0t K rec x.1 x.2.1 x.2.2.1 x.2.2.2.1 x.2.2.2.2
noncomputable def f35.s0.b : Code := (findLoop 0 f35.c).getD .skip
def f35.s0.h : Hint := ⟨[2, 3, 4, 6, 7], [0, 1, 2], 3⟩
def f35.s0.ho : Hint := ⟨[2, 4, 6], [0, 2], 3⟩
def f35.s0.shp (x : Int × Int × List Int × List Int × List Int) : VS := ⟨[(2, .ptr 0 0), (3, .ptr 1 0), (4, .ptr 2 0), (6, .int .u64 x.1), (7, .int .i64 x.2.1)], [(0, ([.ints .u64 4 x.2.2.1], 24)), (1, ([.ints .u64 4 x.2.2.2.1], 24)), (2, ([.ints .u64 4 x.2.2.2.2], 24))], 3⟩
def f35.s0.inX : VS → Option (Int × Int × List Int × List Int × List Int)
  | ⟨[(2, .ptr 0 0), (3, .ptr 1 0), (4, .ptr 2 0), (6, .int .u64 t6), (7, .int .i64 t7)], [(0, ([.ints .u64 4 b0], 24)), (1, ([.ints .u64 4 b1], 24)), (2, ([.ints .u64 4 b2], 24))], 3⟩ => some (t6, t7, b0, b1, b2)
  | _ => none
def f35.s0.out (y : Int × List Int × List Int) : Ex × VS := (.exit 0, ⟨[(2, .ptr 0 0), (4, .ptr 2 0), (6, .int .u64 y.1)], [(0, ([.ints .u64 4 y.2.1], 24)), (2, ([.ints .u64 4 y.2.2], 24))], 3⟩)
def f35.s0.inY : Ex → VS → Option (Int × List Int × List Int)
  | .exit 0, ⟨[(2, .ptr 0 0), (4, .ptr 2 0), (6, .int .u64 t6)], [(0, ([.ints .u64 4 b0], 24)), (2, ([.ints .u64 4 b2], 24))], 3⟩ => some (t6, b0, b2)
  | _, _ => none
def f35.lp (K : Nat) : Nat → Option (Hint × Summ) := tabLp [(0, f35.s0.h, summOf (iter (f35.s0 K) K) f35.s0.inX f35.s0.out)]
noncomputable def f35.tab (_K : Nat) : List (Nat × Entry) := []
theorem f35.tabOK (K : Nat) : SpecOK Try.prog (tabSp (f35.tab K)) := tab_ok tab_nil
theorem f35.s0.eq (K : Nat) (rec : Int × Int × List Int × List Int × List Int → Option (Int × List Int × List Int)) (x : Int × Int × List Int × List Int × List Int) : f35.s0 K rec x = roundL (getA tys) (tabSp (f35.tab K)) 41 0 (f35.lp K) 400 f35.s0.b f35.s0.h f35.s0.ho f35.s0.shp f35.s0.inX f35.s0.inY rec x := by kernel_rfl
theorem f35.s0.lok (K : Nat) : LoopsOK Try.prog 41 0 (f35.lp K) f35.s0.b := loops_ok (by
  have h : loopsIn (f35.lp K) f35.s0.b = [] := by kernel_rfl
  rw [h]; simp)
theorem f35.s0.ok (K : Nat) : SummOK Try.prog 41 0 (summOf (iter (f35.s0 K) K) f35.s0.inX f35.s0.out) f35.s0.h f35.s0.b := by
  exact loop_ok mix tys_ok (f35.tabOK K) (h := f35.s0.h) (ho := f35.s0.ho) (shp := f35.s0.shp) (inX := f35.s0.inX) (out := f35.s0.out) (inY := f35.s0.inY) (fuel := 400)
    (by intro st x h; unfold f35.s0.inX at h; split at h <;> simp at h; subst h; rfl)
    (by intro e st y h; unfold f35.s0.inY at h; split at h <;> simp at h <;> subst h <;> rfl)
    (f35.s0.lok K) (f35.s0 K) (f35.s0.eq K) K
theorem f35.loops (K : Nat) : LoopsOK Try.prog 41 0 (f35.lp K) f35.c := loops_ok (by
  have h : loopsIn (f35.lp K) f35.c = [(0, f35.s0.b)] := by kernel_rfl
  rw [h]
  intro p hp
  simp only [List.mem_cons, List.not_mem_nil, or_false] at hp
  rcases hp with rfl
  · exact ⟨_, rfl, f35.s0.ok K⟩)
def f35.T (K : Nat) (a0 : List Int) (a1 : List Int) : Option (List Int × Int) :=
  (iter (f35.s0 K) K (0, 0, a0, a1, [0, 0, 0, 0])).bind fun y46 =>
  some (y46.2.1, y46.1)
def f35.F (K : Nat) (x : List Int × List Int) : Option (List Int × Int) := f35.T K x.1 x.2
def f35.mk (y : List Int × Int) : VV := .tup [.agg [.ints .u64 4 y.1], .int .u64 y.2]
def f35.inA : List VV → Option (List Int × List Int)
  | [.agg [.ints .u64 4 a0], .agg [.ints .u64 4 a1]] => some (a0, a1)
  | _ => none
def f35.shp (x : List Int × List Int) : List VV := [.agg [.ints .u64 4 x.1], .agg [.ints .u64 4 x.2]]
def f35.inR : VV → Option (List Int × Int)
  | .tup [.agg [.ints .u64 4 y0], .int .u64 y1] => some (y0, y1)
  | _ => none
noncomputable def f35.E (K : Nat) : Entry := pureE f35.inA (f35.F K) f35.mk
theorem f35.eq (K : Nat) (x : List Int × List Int) : f35.F K x = xrun (getA tys) (tabSp (f35.tab K)) Try.f35.ntmps 0 (f35.lp K) 400 f35.c ⟨initL 0 (f35.shp x), [], 0⟩ (contF (getA tys) Try.f35.results.toList fun v _ => f35.inR v) := by kernel_rfl
theorem f35.ok (K : Nat) : EntryOK Try.prog 35 (f35.E K) :=
  pure_ok mix tys_ok (f35.tabOK K) Try.func35 (by kernel_rfl : Try.f35.body = some f35.c) (by kernel_rfl) (f35.loops K) (shp := f35.shp) (fuel := 400)
    (by intro vs x h; unfold f35.inA at h; split at h <;> simp at h; subst h; rfl) (by intro v y h; unfold f35.inR at h; split at h <;> simp at h; subst h; exact ⟨rfl, rfl⟩)
    (by intro x; exact ⟨Nat.le_of_ble_eq_true rfl, rfl⟩) (f35.eq K)
end Go.Proofs

namespace Go.Proofs
open Go.VM
/-! ### burrow/burrowref02.Bit -/
noncomputable def f41.c : Code := bodyOf Try.f41
def f41.lp (_ : Nat) : Nat → Option (Hint × Summ) := fun _ => none
noncomputable def f41.tab (_K : Nat) : List (Nat × Entry) := []
theorem f41.tabOK (K : Nat) : SpecOK Try.prog (tabSp (f41.tab K)) := tab_ok tab_nil
theorem f41.loops (K : Nat) : LoopsOK Try.prog 22 0 (f41.lp K) f41.c := loops_ok (by
  have h : loopsIn (f41.lp K) f41.c = [] := by kernel_rfl
  rw [h]; simp)
def f41.T (_K : Nat) (a0 : List Int) (a1 : Int) : Option (Int) :=
  bif (decide (a1 < 0)) then
    some (0)
  else
    bif (decide (a1 ≥ 256)) then
      some (0)
    else
      let v3 := IntKind.wrap .i64 (Int.tdiv a1 64)
      bif decide (0 ≤ v3 ∧ v3 < 4) then
        let v6 := IntKind.wrap .u64 (Int.tmod a1 64)
        bif decide (0 ≤ v6) then
          some (Int.tmod (shiftI .shr .u64 (List.getD a0 (Int.toNat v3) 0) v6) 2)
        else
          none
      else
        none
def f41.F (K : Nat) (x : List Int × Int) : Option (Int) := f41.T K x.1 x.2
def f41.mk (y : Int) : VV := .int .u64 y
def f41.inA : List VV → Option (List Int × Int)
  | [.agg [.ints .u64 4 a0], .int .i64 a1] => some (a0, a1)
  | _ => none
def f41.shp (x : List Int × Int) : List VV := [.agg [.ints .u64 4 x.1], .int .i64 x.2]
def f41.inR : VV → Option (Int)
  | .int .u64 y => some y
  | _ => none
noncomputable def f41.E (K : Nat) : Entry := pureE f41.inA (f41.F K) f41.mk
theorem f41.eq (K : Nat) (x : List Int × Int) : f41.F K x = xrun (getA tys) (tabSp (f41.tab K)) Try.f41.ntmps 0 (f41.lp K) 400 f41.c ⟨initL 0 (f41.shp x), [], 0⟩ (contF (getA tys) Try.f41.results.toList fun v _ => f41.inR v) := by kernel_rfl
theorem f41.ok (K : Nat) : EntryOK Try.prog 41 (f41.E K) :=
  pure_ok mix tys_ok (f41.tabOK K) Try.func41 (by kernel_rfl : Try.f41.body = some f41.c) (by kernel_rfl) (f41.loops K) (shp := f41.shp) (fuel := 400)
    (by intro vs x h; unfold f41.inA at h; split at h <;> simp at h; subst h; rfl) (by intro v y h; unfold f41.inR at h; split at h <;> simp at h; subst h; exact ⟨rfl, rfl⟩)
    (by intro x; exact ⟨Nat.le_of_ble_eq_true rfl, rfl⟩) (f41.eq K)
end Go.Proofs

namespace Go.Proofs
open Go.VM
/-! ### burrow/burrowref02.Of -/
noncomputable def f47.c : Code := bodyOf Try.f47
def f47.lp (_ : Nat) : Nat → Option (Hint × Summ) := fun _ => none
noncomputable def f47.tab (_K : Nat) : List (Nat × Entry) := []
theorem f47.tabOK (K : Nat) : SpecOK Try.prog (tabSp (f47.tab K)) := tab_ok tab_nil
theorem f47.loops (K : Nat) : LoopsOK Try.prog 5 0 (f47.lp K) f47.c := loops_ok (by
  have h : loopsIn (f47.lp K) f47.c = [] := by kernel_rfl
  rw [h]; simp)
def f47.T (_K : Nat) (a0 : Int) : Option (List Int) :=
  some ([a0, 0, 0, 0])
def f47.F (K : Nat) (x : Int) : Option (List Int) := f47.T K x
def f47.mk (y : List Int) : VV := .agg [.ints .u64 4 y]
def f47.inA : List VV → Option (Int)
  | [.int .u64 a0] => some a0
  | _ => none
def f47.shp (x : Int) : List VV := [.int .u64 x]
def f47.inR : VV → Option (List Int)
  | .agg [.ints .u64 4 y] => some y
  | _ => none
noncomputable def f47.E (K : Nat) : Entry := pureE f47.inA (f47.F K) f47.mk
theorem f47.eq (K : Nat) (x : Int) : f47.F K x = xrun (getA tys) (tabSp (f47.tab K)) Try.f47.ntmps 0 (f47.lp K) 400 f47.c ⟨initL 0 (f47.shp x), [], 0⟩ (contF (getA tys) Try.f47.results.toList fun v _ => f47.inR v) := by kernel_rfl
theorem f47.ok (K : Nat) : EntryOK Try.prog 47 (f47.E K) :=
  pure_ok mix tys_ok (f47.tabOK K) Try.func47 (by kernel_rfl : Try.f47.body = some f47.c) (by kernel_rfl) (f47.loops K) (shp := f47.shp) (fuel := 400)
    (by intro vs x h; unfold f47.inA at h; split at h <;> simp at h; subst h; rfl) (by intro v y h; unfold f47.inR at h; split at h <;> simp at h; subst h; exact ⟨rfl, rfl⟩)
    (by intro x; exact ⟨Nat.le_of_ble_eq_true rfl, rfl⟩) (f47.eq K)
end Go.Proofs

namespace Go.Proofs
open Go.VM
/-! ### burrow/burrowref02.Bits -/
noncomputable def f43.c : Code := bodyOf Try.f43
def f43.s0t (K : Nat) (rec : Int × List Int → Option (Int)) (t3 : Int) (b0 : List Int) : Option (Int) :=
  bif (decide (t3 > 0)) then
    (f41.F K (b0, (IntKind.wrap .i64 (t3 - 1)))).bind fun y11 =>
    bif (y11 == 0) then
      rec ((IntKind.wrap .i64 (t3 - 1)), b0)
    else
      some t3
  else
    some t3
def f43.s0 (K : Nat) (rec : Int × List Int → Option (Int)) (x : Int × List Int) : Option (Int) := f43.s0t K rec x.1 x.2
noncomputable def f43.s0.b : Code := (findLoop 0 f43.c).getD .skip
def f43.s0.h : Hint := ⟨[1, 3], [0], 1⟩
def f43.s0.ho : Hint := ⟨[3], [], 1⟩
def f43.s0.shp (x : Int × List Int) : VS := ⟨[(1, .ptr 0 0), (3, .int .i64 x.1)], [(0, ([.ints .u64 4 x.2], 24))], 1⟩
def f43.s0.inX : VS → Option (Int × List Int)
  | ⟨[(1, .ptr 0 0), (3, .int .i64 t3)], [(0, ([.ints .u64 4 b0], 24))], 1⟩ => some (t3, b0)
  | _ => none
def f43.s0.out (y : Int) : Ex × VS := (.exit 0, ⟨[(3, .int .i64 y)], [], 1⟩)
def f43.s0.inY : Ex → VS → Option (Int)
  | .exit 0, ⟨[(3, .int .i64 t3)], [], 1⟩ => some t3
  | _, _ => none
def f43.lp (K : Nat) : Nat → Option (Hint × Summ) := tabLp [(0, f43.s0.h, summOf (iter (f43.s0 K) K) f43.s0.inX f43.s0.out)]
noncomputable def f43.tab (K : Nat) : List (Nat × Entry) := [(41, f41.E K)]
theorem f43.tabOK (K : Nat) : SpecOK Try.prog (tabSp (f43.tab K)) := tab_ok ((tab_cons (f41.ok K) tab_nil))
theorem f43.s0.eq (K : Nat) (rec : Int × List Int → Option (Int)) (x : Int × List Int) : f43.s0 K rec x = roundL (getA tys) (tabSp (f43.tab K)) 16 0 (f43.lp K) 400 f43.s0.b f43.s0.h f43.s0.ho f43.s0.shp f43.s0.inX f43.s0.inY rec x := by kernel_rfl
theorem f43.s0.lok (K : Nat) : LoopsOK Try.prog 16 0 (f43.lp K) f43.s0.b := loops_ok (by
  have h : loopsIn (f43.lp K) f43.s0.b = [] := by kernel_rfl
  rw [h]; simp)
theorem f43.s0.ok (K : Nat) : SummOK Try.prog 16 0 (summOf (iter (f43.s0 K) K) f43.s0.inX f43.s0.out) f43.s0.h f43.s0.b := by
  exact loop_ok mix tys_ok (f43.tabOK K) (h := f43.s0.h) (ho := f43.s0.ho) (shp := f43.s0.shp) (inX := f43.s0.inX) (out := f43.s0.out) (inY := f43.s0.inY) (fuel := 400)
    (by intro st x h; unfold f43.s0.inX at h; split at h <;> simp at h; subst h; rfl)
    (by intro e st y h; unfold f43.s0.inY at h; split at h <;> simp at h <;> subst h <;> rfl)
    (f43.s0.lok K) (f43.s0 K) (f43.s0.eq K) K
theorem f43.loops (K : Nat) : LoopsOK Try.prog 16 0 (f43.lp K) f43.c := loops_ok (by
  have h : loopsIn (f43.lp K) f43.c = [(0, f43.s0.b)] := by kernel_rfl
  rw [h]
  intro p hp
  simp only [List.mem_cons, List.not_mem_nil, or_false] at hp
  rcases hp with rfl
  · exact ⟨_, rfl, f43.s0.ok K⟩)
def f43.T (K : Nat) (a0 : List Int) : Option (Int) :=
  (iter (f43.s0 K) K (256, a0)).bind fun y13 =>
  some y13
def f43.F (K : Nat) (x : List Int) : Option (Int) := f43.T K x
def f43.mk (y : Int) : VV := .int .i64 y
def f43.inA : List VV → Option (List Int)
  | [.agg [.ints .u64 4 a0]] => some a0
  | _ => none
def f43.shp (x : List Int) : List VV := [.agg [.ints .u64 4 x]]
def f43.inR : VV → Option (Int)
  | .int .i64 y => some y
  | _ => none
noncomputable def f43.E (K : Nat) : Entry := pureE f43.inA (f43.F K) f43.mk
theorem f43.eq (K : Nat) (x : List Int) : f43.F K x = xrun (getA tys) (tabSp (f43.tab K)) Try.f43.ntmps 0 (f43.lp K) 400 f43.c ⟨initL 0 (f43.shp x), [], 0⟩ (contF (getA tys) Try.f43.results.toList fun v _ => f43.inR v) := by kernel_rfl
theorem f43.ok (K : Nat) : EntryOK Try.prog 43 (f43.E K) :=
  pure_ok mix tys_ok (f43.tabOK K) Try.func43 (by kernel_rfl : Try.f43.body = some f43.c) (by kernel_rfl) (f43.loops K) (shp := f43.shp) (fuel := 400)
    (by intro vs x h; unfold f43.inA at h; split at h <;> simp at h; subst h; rfl) (by intro v y h; unfold f43.inR at h; split at h <;> simp at h; subst h; exact ⟨rfl, rfl⟩)
    (by intro x; exact ⟨Nat.le_of_ble_eq_true rfl, rfl⟩) (f43.eq K)
end Go.Proofs

namespace Go.Proofs
open Go.VM
/-! ### burrow/burrowref02.Cmp -/
noncomputable def f45.c : Code := bodyOf Try.f45
def f45.s0t (_K : Nat) (rec : Int × Int × List Int × List Int → Option (Int)) (t5 : Int) (t6 : Int) (b0 : List Int) (b1 : List Int) : Option (Int) :=
  bif (decide (t6 < 4)) then
    bif decide (0 ≤ t6 ∧ t6 < 4) then
      bif decide (0 ≤ t6 ∧ t6 < 4) then
        bif (decide ((List.getD b0 (Int.toNat t6) 0) < (List.getD b1 (Int.toNat t6) 0))) then
          bif decide (0 ≤ t6 ∧ t6 < 4) then
            bif decide (0 ≤ t6 ∧ t6 < 4) then
              bif (decide ((List.getD b0 (Int.toNat t6) 0) > (List.getD b1 (Int.toNat t6) 0))) then
                rec (1, (IntKind.wrap .i64 (t6 + 1)), b0, b1)
              else
                rec ((-1), (IntKind.wrap .i64 (t6 + 1)), b0, b1)
            else
              none
          else
            none
        else
          bif decide (0 ≤ t6 ∧ t6 < 4) then
            bif decide (0 ≤ t6 ∧ t6 < 4) then
              bif (decide ((List.getD b0 (Int.toNat t6) 0) > (List.getD b1 (Int.toNat t6) 0))) then
                rec (1, (IntKind.wrap .i64 (t6 + 1)), b0, b1)
              else
                rec (t5, (IntKind.wrap .i64 (t6 + 1)), b0, b1)
            else
              none
          else
            none
      else
        none
    else
      none
  else
    some t5
def f45.s0 (K : Nat) (rec : Int × Int × List Int × List Int → Option (Int)) (x : Int × Int × List Int × List Int) : Option (Int) := f45.s0t K rec x.1 x.2.1 x.2.2.1 x.2.2.2
noncomputable def f45.s0.b : Code := (findLoop 0 f45.c).getD .skip
def f45.s0.h : Hint := ⟨[2, 3, 5, 6], [0, 1], 2⟩
def f45.s0.ho : Hint := ⟨[5], [], 2⟩
def f45.s0.shp (x : Int × Int × List Int × List Int) : VS := ⟨[(2, .ptr 0 0), (3, .ptr 1 0), (5, .int .i64 x.1), (6, .int .i64 x.2.1)], [(0, ([.ints .u64 4 x.2.2.1], 24)), (1, ([.ints .u64 4 x.2.2.2], 24))], 2⟩
def f45.s0.inX : VS → Option (Int × Int × List Int × List Int)
  | ⟨[(2, .ptr 0 0), (3, .ptr 1 0), (5, .int .i64 t5), (6, .int .i64 t6)], [(0, ([.ints .u64 4 b0], 24)), (1, ([.ints .u64 4 b1], 24))], 2⟩ => some (t5, t6, b0, b1)
  | _ => none
def f45.s0.out (y : Int) : Ex × VS := (.exit 0, ⟨[(5, .int .i64 y)], [], 2⟩)
def f45.s0.inY : Ex → VS → Option (Int)
  | .exit 0, ⟨[(5, .int .i64 t5)], [], 2⟩ => some t5
  | _, _ => none
def f45.lp (K : Nat) : Nat → Option (Hint × Summ) := tabLp [(0, f45.s0.h, summOf (iter (f45.s0 K) K) f45.s0.inX f45.s0.out)]
noncomputable def f45.tab (_K : Nat) : List (Nat × Entry) := []
theorem f45.tabOK (K : Nat) : SpecOK Try.prog (tabSp (f45.tab K)) := tab_ok tab_nil
theorem f45.s0.eq (K : Nat) (rec : Int × Int × List Int × List Int → Option (Int)) (x : Int × Int × List Int × List Int) : f45.s0 K rec x = roundL (getA tys) (tabSp (f45.tab K)) 26 0 (f45.lp K) 400 f45.s0.b f45.s0.h f45.s0.ho f45.s0.shp f45.s0.inX f45.s0.inY rec x := by kernel_rfl
theorem f45.s0.lok (K : Nat) : LoopsOK Try.prog 26 0 (f45.lp K) f45.s0.b := loops_ok (by
  have h : loopsIn (f45.lp K) f45.s0.b = [] := by kernel_rfl
  rw [h]; simp)
theorem f45.s0.ok (K : Nat) : SummOK Try.prog 26 0 (summOf (iter (f45.s0 K) K) f45.s0.inX f45.s0.out) f45.s0.h f45.s0.b := by
  exact loop_ok mix tys_ok (f45.tabOK K) (h := f45.s0.h) (ho := f45.s0.ho) (shp := f45.s0.shp) (inX := f45.s0.inX) (out := f45.s0.out) (inY := f45.s0.inY) (fuel := 400)
    (by intro st x h; unfold f45.s0.inX at h; split at h <;> simp at h; subst h; rfl)
    (by intro e st y h; unfold f45.s0.inY at h; split at h <;> simp at h <;> subst h <;> rfl)
    (f45.s0.lok K) (f45.s0 K) (f45.s0.eq K) K
theorem f45.loops (K : Nat) : LoopsOK Try.prog 26 0 (f45.lp K) f45.c := loops_ok (by
  have h : loopsIn (f45.lp K) f45.c = [(0, f45.s0.b)] := by kernel_rfl
  rw [h]
  intro p hp
  simp only [List.mem_cons, List.not_mem_nil, or_false] at hp
  rcases hp with rfl
  · exact ⟨_, rfl, f45.s0.ok K⟩)
def f45.T (K : Nat) (a0 : List Int) (a1 : List Int) : Option (Int) :=
  (iter (f45.s0 K) K (0, 0, a0, a1)).bind fun y43 =>
  some y43
def f45.F (K : Nat) (x : List Int × List Int) : Option (Int) := f45.T K x.1 x.2
def f45.mk (y : Int) : VV := .int .i64 y
def f45.inA : List VV → Option (List Int × List Int)
  | [.agg [.ints .u64 4 a0], .agg [.ints .u64 4 a1]] => some (a0, a1)
  | _ => none
def f45.shp (x : List Int × List Int) : List VV := [.agg [.ints .u64 4 x.1], .agg [.ints .u64 4 x.2]]
def f45.inR : VV → Option (Int)
  | .int .i64 y => some y
  | _ => none
noncomputable def f45.E (K : Nat) : Entry := pureE f45.inA (f45.F K) f45.mk
theorem f45.eq (K : Nat) (x : List Int × List Int) : f45.F K x = xrun (getA tys) (tabSp (f45.tab K)) Try.f45.ntmps 0 (f45.lp K) 400 f45.c ⟨initL 0 (f45.shp x), [], 0⟩ (contF (getA tys) Try.f45.results.toList fun v _ => f45.inR v) := by kernel_rfl
theorem f45.ok (K : Nat) : EntryOK Try.prog 45 (f45.E K) :=
  pure_ok mix tys_ok (f45.tabOK K) Try.func45 (by kernel_rfl : Try.f45.body = some f45.c) (by kernel_rfl) (f45.loops K) (shp := f45.shp) (fuel := 400)
    (by intro vs x h; unfold f45.inA at h; split at h <;> simp at h; subst h; rfl) (by intro v y h; unfold f45.inR at h; split at h <;> simp at h; subst h; exact ⟨rfl, rfl⟩)
    (by intro x; exact ⟨Nat.le_of_ble_eq_true rfl, rfl⟩) (f45.eq K)
end Go.Proofs

namespace Go.Proofs
open Go.VM
/-! ### burrow/burrowref02.Mul -/
noncomputable def f37.c : Code := bodyOf Try.f37
def f37.s0t (K : Nat) (rec : Int × List Int × List Int × List Int × List Int × List Int × List Int → Option (List Int × List Int × List Int × List Int)) (t8 : Int) (b0 : List Int) (b1 : List Int) (b2 : List Int) (b3 : List Int) (b4 : List Int) (b5 : List Int) : Option (List Int × List Int × List Int × List Int) :=
  bif (decide (t8 ≥ 0)) then
    (f33.F K (b4, b4)).bind fun y24 =>
    (f33.F K (b5, b5)).bind fun y25 =>
    (f47.F K y24.2).bind fun y26 =>
    (f33.F K (y25.1, y26)).bind fun y27 =>
    (f41.F K (b1, t8)).bind fun y28 =>
    bif (y28 == 1) then
      (f33.F K (y24.1, b0)).bind fun y29 =>
      (f47.F K y29.2).bind fun y30 =>
      (f33.F K (y27.1, y30)).bind fun y31 =>
      rec ((IntKind.wrap .i64 (t8 - 1)), b0, b1, b2, b3, y29.1, y31.1)
    else
      rec ((IntKind.wrap .i64 (t8 - 1)), b0, b1, b2, b3, y24.1, y27.1)
  else
    some (b2, b3, b4, b5)
def f37.s0 (K : Nat) (rec : Int × List Int × List Int × List Int × List Int × List Int × List Int → Option (List Int × List Int × List Int × List Int)) (x : Int × List Int × List Int × List Int × List Int × List Int × List Int) : Option (List Int × List Int × List Int × List Int) := f37.s0t K rec x.1 x.2.1 x.2.2.1 x.2.2.2.1 x.2.2.2.2.1 x.2.2.2.2.2.1 x.2.2.2.2.2.2
noncomputable def f37.s0.b : Code := (findLoop 0 f37.c).getD .skip
def f37.s0.h : Hint := ⟨[2, 3, 4, 5, 6, 7, 8], [0, 1, 2, 3, 4, 5], 6⟩
def f37.s0.ho : Hint := ⟨[4, 5, 6, 7], [2, 3, 4, 5], 6⟩
def f37.s0.shp (x : Int × List Int × List Int × List Int × List Int × List Int × List Int) : VS := ⟨[(2, .ptr 0 0), (3, .ptr 1 0), (4, .ptr 2 0), (5, .ptr 3 0), (6, .ptr 4 0), (7, .ptr 5 0), (8, .int .i64 x.1)], [(0, ([.ints .u64 4 x.2.1], 24)), (1, ([.ints .u64 4 x.2.2.1], 24)), (2, ([.ints .u64 4 x.2.2.2.1], 24)), (3, ([.ints .u64 4 x.2.2.2.2.1], 24)), (4, ([.ints .u64 4 x.2.2.2.2.2.1], 24)), (5, ([.ints .u64 4 x.2.2.2.2.2.2], 24))], 6⟩
def f37.s0.inX : VS → Option (Int × List Int × List Int × List Int × List Int × List Int × List Int)
  | ⟨[(2, .ptr 0 0), (3, .ptr 1 0), (4, .ptr 2 0), (5, .ptr 3 0), (6, .ptr 4 0), (7, .ptr 5 0), (8, .int .i64 t8)], [(0, ([.ints .u64 4 b0], 24)), (1, ([.ints .u64 4 b1], 24)), (2, ([.ints .u64 4 b2], 24)), (3, ([.ints .u64 4 b3], 24)), (4, ([.ints .u64 4 b4], 24)), (5, ([.ints .u64 4 b5], 24))], 6⟩ => some (t8, b0, b1, b2, b3, b4, b5)
  | _ => none
def f37.s0.out (y : List Int × List Int × List Int × List Int) : Ex × VS := (.exit 0, ⟨[(4, .ptr 2 0), (5, .ptr 3 0), (6, .ptr 4 0), (7, .ptr 5 0)], [(2, ([.ints .u64 4 y.1], 24)), (3, ([.ints .u64 4 y.2.1], 24)), (4, ([.ints .u64 4 y.2.2.1], 24)), (5, ([.ints .u64 4 y.2.2.2], 24))], 6⟩)
def f37.s0.inY : Ex → VS → Option (List Int × List Int × List Int × List Int)
  | .exit 0, ⟨[(4, .ptr 2 0), (5, .ptr 3 0), (6, .ptr 4 0), (7, .ptr 5 0)], [(2, ([.ints .u64 4 b2], 24)), (3, ([.ints .u64 4 b3], 24)), (4, ([.ints .u64 4 b4], 24)), (5, ([.ints .u64 4 b5], 24))], 6⟩ => some (b2, b3, b4, b5)
  | _, _ => none
def f37.lp (K : Nat) : Nat → Option (Hint × Summ) := tabLp [(0, f37.s0.h, summOf (iter (f37.s0 K) K) f37.s0.inX f37.s0.out)]
noncomputable def f37.tab (K : Nat) : List (Nat × Entry) := [(33, f33.E K), (47, f47.E K), (41, f41.E K)]
theorem f37.tabOK (K : Nat) : SpecOK Try.prog (tabSp (f37.tab K)) := tab_ok ((tab_cons (f33.ok K) (tab_cons (f47.ok K) (tab_cons (f41.ok K) tab_nil))))
theorem f37.s0.eq (K : Nat) (rec : Int × List Int × List Int × List Int × List Int × List Int × List Int → Option (List Int × List Int × List Int × List Int)) (x : Int × List Int × List Int × List Int × List Int × List Int × List Int) : f37.s0 K rec x = roundL (getA tys) (tabSp (f37.tab K)) 52 0 (f37.lp K) 400 f37.s0.b f37.s0.h f37.s0.ho f37.s0.shp f37.s0.inX f37.s0.inY rec x := by kernel_rfl
theorem f37.s0.lok (K : Nat) : LoopsOK Try.prog 52 0 (f37.lp K) f37.s0.b := loops_ok (by
  have h : loopsIn (f37.lp K) f37.s0.b = [] := by kernel_rfl
  rw [h]; simp)
theorem f37.s0.ok (K : Nat) : SummOK Try.prog 52 0 (summOf (iter (f37.s0 K) K) f37.s0.inX f37.s0.out) f37.s0.h f37.s0.b := by
  exact loop_ok mix tys_ok (f37.tabOK K) (h := f37.s0.h) (ho := f37.s0.ho) (shp := f37.s0.shp) (inX := f37.s0.inX) (out := f37.s0.out) (inY := f37.s0.inY) (fuel := 400)
    (by intro st x h; unfold f37.s0.inX at h; split at h <;> simp at h; subst h; rfl)
    (by intro e st y h; unfold f37.s0.inY at h; split at h <;> simp at h <;> subst h <;> rfl)
    (f37.s0.lok K) (f37.s0 K) (f37.s0.eq K) K
theorem f37.loops (K : Nat) : LoopsOK Try.prog 52 0 (f37.lp K) f37.c := loops_ok (by
  have h : loopsIn (f37.lp K) f37.c = [(0, f37.s0.b)] := by kernel_rfl
  rw [h]
  intro p hp
  simp only [List.mem_cons, List.not_mem_nil, or_false] at hp
  rcases hp with rfl
  · exact ⟨_, rfl, f37.s0.ok K⟩)
def f37.T (K : Nat) (a0 : List Int) (a1 : List Int) : Option (List Int × List Int) :=
  (iter (f37.s0 K) K (255, a0, a1, [0, 0, 0, 0], [0, 0, 0, 0], [0, 0, 0, 0], [0, 0, 0, 0])).bind fun y34 =>
  some (y34.2.2.1, y34.2.2.2)
def f37.F (K : Nat) (x : List Int × List Int) : Option (List Int × List Int) := f37.T K x.1 x.2
def f37.mk (y : List Int × List Int) : VV := .tup [.agg [.ints .u64 4 y.1], .agg [.ints .u64 4 y.2]]
def f37.inA : List VV → Option (List Int × List Int)
  | [.agg [.ints .u64 4 a0], .agg [.ints .u64 4 a1]] => some (a0, a1)
  | _ => none
def f37.shp (x : List Int × List Int) : List VV := [.agg [.ints .u64 4 x.1], .agg [.ints .u64 4 x.2]]
def f37.inR : VV → Option (List Int × List Int)
  | .tup [.agg [.ints .u64 4 y0], .agg [.ints .u64 4 y1]] => some (y0, y1)
  | _ => none
noncomputable def f37.E (K : Nat) : Entry := pureE f37.inA (f37.F K) f37.mk
theorem f37.eq (K : Nat) (x : List Int × List Int) : f37.F K x = xrun (getA tys) (tabSp (f37.tab K)) Try.f37.ntmps 0 (f37.lp K) 400 f37.c ⟨initL 0 (f37.shp x), [], 0⟩ (contF (getA tys) Try.f37.results.toList fun v _ => f37.inR v) := by kernel_rfl
theorem f37.ok (K : Nat) : EntryOK Try.prog 37 (f37.E K) :=
  pure_ok mix tys_ok (f37.tabOK K) Try.func37 (by kernel_rfl : Try.f37.body = some f37.c) (by kernel_rfl) (f37.loops K) (shp := f37.shp) (fuel := 400)
    (by intro vs x h; unfold f37.inA at h; split at h <;> simp at h; subst h; rfl) (by intro v y h; unfold f37.inR at h; split at h <;> simp at h; subst h; exact ⟨rfl, rfl⟩)
    (by intro x; exact ⟨Nat.le_of_ble_eq_true rfl, rfl⟩) (f37.eq K)
end Go.Proofs

namespace Go.Proofs
open Go.VM
/-! ### burrow/burrowref02.Shift -/
noncomputable def f39.c : Code := bodyOf Try.f39
def f39.s0t (K : Nat) (rec : Int × Int × List Int × List Int → Option (Int × List Int × List Int)) (t1 : Int) (t5 : Int) (b0 : List Int) (b1 : List Int) : Option (Int × List Int × List Int) :=
  bif (decide (t5 < t1)) then
    (f33.F K (b0, b0)).bind fun y10 =>
    rec (t1, (IntKind.wrap .i64 (t5 + 1)), y10.1, b1)
  else
    some (t1, b0, b1)
def f39.s0 (K : Nat) (rec : Int × Int × List Int × List Int → Option (Int × List Int × List Int)) (x : Int × Int × List Int × List Int) : Option (Int × List Int × List Int) := f39.s0t K rec x.1 x.2.1 x.2.2.1 x.2.2.2
noncomputable def f39.s0.b : Code := (findLoop 0 f39.c).getD .skip
def f39.s0.h : Hint := ⟨[1, 2, 4, 5], [0, 1], 2⟩
def f39.s0.ho : Hint := ⟨[1, 2, 4], [0, 1], 2⟩
def f39.s0.shp (x : Int × Int × List Int × List Int) : VS := ⟨[(1, .int .i64 x.1), (2, .ptr 0 0), (4, .ptr 1 0), (5, .int .i64 x.2.1)], [(0, ([.ints .u64 4 x.2.2.1], 24)), (1, ([.ints .u64 4 x.2.2.2], 24))], 2⟩
def f39.s0.inX : VS → Option (Int × Int × List Int × List Int)
  | ⟨[(1, .int .i64 t1), (2, .ptr 0 0), (4, .ptr 1 0), (5, .int .i64 t5)], [(0, ([.ints .u64 4 b0], 24)), (1, ([.ints .u64 4 b1], 24))], 2⟩ => some (t1, t5, b0, b1)
  | _ => none
def f39.s0.out (y : Int × List Int × List Int) : Ex × VS := (.exit 0, ⟨[(1, .int .i64 y.1), (2, .ptr 0 0), (4, .ptr 1 0)], [(0, ([.ints .u64 4 y.2.1], 24)), (1, ([.ints .u64 4 y.2.2], 24))], 2⟩)
def f39.s0.inY : Ex → VS → Option (Int × List Int × List Int)
  | .exit 0, ⟨[(1, .int .i64 t1), (2, .ptr 0 0), (4, .ptr 1 0)], [(0, ([.ints .u64 4 b0], 24)), (1, ([.ints .u64 4 b1], 24))], 2⟩ => some (t1, b0, b1)
  | _, _ => none
def f39.s2t (K : Nat) (rec : Int × Int × List Int × List Int × List Int → Option (List Int × List Int)) (t1 : Int) (t7 : Int) (b0 : List Int) (b1 : List Int) (b2 : List Int) : Option (List Int × List Int) :=
  bif (decide (t7 ≥ (IntKind.wrap .i64 (0 - t1)))) then
    (f33.F K (b2, b2)).bind fun y32 =>
    (f41.F K (b0, t7)).bind fun y34 =>
    rec (t1, (IntKind.wrap .i64 (t7 - 1)), b0, b1, (setD y32.1 0 (IntKind.wrap .u64 ((List.getD y32.1 0 0) + y34))))
  else
    some (b1, b2)
def f39.s2 (K : Nat) (rec : Int × Int × List Int × List Int × List Int → Option (List Int × List Int)) (x : Int × Int × List Int × List Int × List Int) : Option (List Int × List Int) := f39.s2t K rec x.1 x.2.1 x.2.2.1 x.2.2.2.1 x.2.2.2.2
noncomputable def f39.s2.b : Code := (findLoop 2 f39.c).getD .skip
def f39.s2.h : Hint := ⟨[1, 2, 4, 6, 7], [0, 1, 2], 3⟩
def f39.s2.ho : Hint := ⟨[4, 6], [1, 2], 3⟩
def f39.s2.shp (x : Int × Int × List Int × List Int × List Int) : VS := ⟨[(1, .int .i64 x.1), (2, .ptr 0 0), (4, .ptr 1 0), (6, .ptr 2 0), (7, .int .i64 x.2.1)], [(0, ([.ints .u64 4 x.2.2.1], 24)), (1, ([.ints .u64 4 x.2.2.2.1], 24)), (2, ([.ints .u64 4 x.2.2.2.2], 24))], 3⟩
def f39.s2.inX : VS → Option (Int × Int × List Int × List Int × List Int)
  | ⟨[(1, .int .i64 t1), (2, .ptr 0 0), (4, .ptr 1 0), (6, .ptr 2 0), (7, .int .i64 t7)], [(0, ([.ints .u64 4 b0], 24)), (1, ([.ints .u64 4 b1], 24)), (2, ([.ints .u64 4 b2], 24))], 3⟩ => some (t1, t7, b0, b1, b2)
  | _ => none
def f39.s2.out (y : List Int × List Int) : Ex × VS := (.exit 2, ⟨[(4, .ptr 1 0), (6, .ptr 2 0)], [(1, ([.ints .u64 4 y.1], 24)), (2, ([.ints .u64 4 y.2], 24))], 3⟩)
def f39.s2.inY : Ex → VS → Option (List Int × List Int)
  | .exit 2, ⟨[(4, .ptr 1 0), (6, .ptr 2 0)], [(1, ([.ints .u64 4 b1], 24)), (2, ([.ints .u64 4 b2], 24))], 3⟩ => some (b1, b2)
  | _, _ => none
def f39.lp (K : Nat) : Nat → Option (Hint × Summ) := tabLp [(0, f39.s0.h, summOf (iter (f39.s0 K) K) f39.s0.inX f39.s0.out), (2, f39.s2.h, summOf (iter (f39.s2 K) K) f39.s2.inX f39.s2.out)]
noncomputable def f39.tab (K : Nat) : List (Nat × Entry) := [(33, f33.E K), (41, f41.E K)]
theorem f39.tabOK (K : Nat) : SpecOK Try.prog (tabSp (f39.tab K)) := tab_ok ((tab_cons (f33.ok K) (tab_cons (f41.ok K) tab_nil)))
theorem f39.s0.eq (K : Nat) (rec : Int × Int × List Int × List Int → Option (Int × List Int × List Int)) (x : Int × Int × List Int × List Int) : f39.s0 K rec x = roundL (getA tys) (tabSp (f39.tab K)) 49 0 (f39.lp K) 400 f39.s0.b f39.s0.h f39.s0.ho f39.s0.shp f39.s0.inX f39.s0.inY rec x := by kernel_rfl
theorem f39.s2.eq (K : Nat) (rec : Int × Int × List Int × List Int × List Int → Option (List Int × List Int)) (x : Int × Int × List Int × List Int × List Int) : f39.s2 K rec x = roundL (getA tys) (tabSp (f39.tab K)) 49 0 (f39.lp K) 400 f39.s2.b f39.s2.h f39.s2.ho f39.s2.shp f39.s2.inX f39.s2.inY rec x := by kernel_rfl
theorem f39.s0.lok (K : Nat) : LoopsOK Try.prog 49 0 (f39.lp K) f39.s0.b := loops_ok (by
  have h : loopsIn (f39.lp K) f39.s0.b = [] := by kernel_rfl
  rw [h]; simp)
theorem f39.s0.ok (K : Nat) : SummOK Try.prog 49 0 (summOf (iter (f39.s0 K) K) f39.s0.inX f39.s0.out) f39.s0.h f39.s0.b := by
  exact loop_ok mix tys_ok (f39.tabOK K) (h := f39.s0.h) (ho := f39.s0.ho) (shp := f39.s0.shp) (inX := f39.s0.inX) (out := f39.s0.out) (inY := f39.s0.inY) (fuel := 400)
    (by intro st x h; unfold f39.s0.inX at h; split at h <;> simp at h; subst h; rfl)
    (by intro e st y h; unfold f39.s0.inY at h; split at h <;> simp at h <;> subst h <;> rfl)
    (f39.s0.lok K) (f39.s0 K) (f39.s0.eq K) K
theorem f39.s2.lok (K : Nat) : LoopsOK Try.prog 49 0 (f39.lp K) f39.s2.b := loops_ok (by
  have h : loopsIn (f39.lp K) f39.s2.b = [] := by kernel_rfl
  rw [h]; simp)
theorem f39.s2.ok (K : Nat) : SummOK Try.prog 49 0 (summOf (iter (f39.s2 K) K) f39.s2.inX f39.s2.out) f39.s2.h f39.s2.b := by
  exact loop_ok mix tys_ok (f39.tabOK K) (h := f39.s2.h) (ho := f39.s2.ho) (shp := f39.s2.shp) (inX := f39.s2.inX) (out := f39.s2.out) (inY := f39.s2.inY) (fuel := 400)
    (by intro st x h; unfold f39.s2.inX at h; split at h <;> simp at h; subst h; rfl)
    (by intro e st y h; unfold f39.s2.inY at h; split at h <;> simp at h <;> subst h <;> rfl)
    (f39.s2.lok K) (f39.s2 K) (f39.s2.eq K) K
theorem f39.loops (K : Nat) : LoopsOK Try.prog 49 0 (f39.lp K) f39.c := loops_ok (by
  have h : loopsIn (f39.lp K) f39.c = [(0, f39.s0.b), (2, f39.s2.b)] := by kernel_rfl
  rw [h]
  intro p hp
  simp only [List.mem_cons, List.not_mem_nil, or_false] at hp
  rcases hp with rfl | rfl
  · exact ⟨_, rfl, f39.s0.ok K⟩
  · exact ⟨_, rfl, f39.s2.ok K⟩)
def f39.T (K : Nat) (a0 : List Int) (a1 : Int) : Option (List Int) :=
  bif (decide (a1 > 256)) then
    some ([0, 0, 0, 0])
  else
    bif (decide (a1 < (-256))) then
      some ([0, 0, 0, 0])
    else
      (iter (f39.s0 K) K (a1, 0, a0, [0, 0, 0, 0])).bind fun y12 =>
      bif (decide (y12.1 ≥ 0)) then
        some y12.2.1
      else
        (iter (f39.s2 K) K (y12.1, 255, y12.2.1, y12.2.2, [0, 0, 0, 0])).bind fun y38 =>
        some y38.2
def f39.F (K : Nat) (x : List Int × Int) : Option (List Int) := f39.T K x.1 x.2
def f39.mk (y : List Int) : VV := .agg [.ints .u64 4 y]
def f39.inA : List VV → Option (List Int × Int)
  | [.agg [.ints .u64 4 a0], .int .i64 a1] => some (a0, a1)
  | _ => none
def f39.shp (x : List Int × Int) : List VV := [.agg [.ints .u64 4 x.1], .int .i64 x.2]
def f39.inR : VV → Option (List Int)
  | .agg [.ints .u64 4 y] => some y
  | _ => none
noncomputable def f39.E (K : Nat) : Entry := pureE f39.inA (f39.F K) f39.mk
theorem f39.eq (K : Nat) (x : List Int × Int) : f39.F K x = xrun (getA tys) (tabSp (f39.tab K)) Try.f39.ntmps 0 (f39.lp K) 400 f39.c ⟨initL 0 (f39.shp x), [], 0⟩ (contF (getA tys) Try.f39.results.toList fun v _ => f39.inR v) := by kernel_rfl
theorem f39.ok (K : Nat) : EntryOK Try.prog 39 (f39.E K) :=
  pure_ok mix tys_ok (f39.tabOK K) Try.func39 (by kernel_rfl : Try.f39.body = some f39.c) (by kernel_rfl) (f39.loops K) (shp := f39.shp) (fuel := 400)
    (by intro vs x h; unfold f39.inA at h; split at h <;> simp at h; subst h; rfl) (by intro v y h; unfold f39.inR at h; split at h <;> simp at h; subst h; exact ⟨rfl, rfl⟩)
    (by intro x; exact ⟨Nat.le_of_ble_eq_true rfl, rfl⟩) (f39.eq K)
end Go.Proofs

namespace Go.Proofs
open Go.VM
/-! ### burrow/burrowlaw02.LimbsReckoned -/
noncomputable def f3.c : Code := bodyOf Try.f3
def f3.lp (_ : Nat) : Nat → Option (Hint × Summ) := fun _ => none
noncomputable def f3.tab (K : Nat) : List (Nat × Entry) := [(32, f32.E K), (33, f33.E K), (34, f34.E K), (35, f35.E K), (36, f36.E K), (37, f37.E K), (38, f38.E K), (39, f39.E K), (40, f40.E K), (41, f41.E K), (42, f42.E K), (43, f43.E K), (44, f44.E K), (45, f45.E K), (46, f46.E K), (47, f47.E K)]
theorem f3.tabOK (K : Nat) : SpecOK Try.prog (tabSp (f3.tab K)) := tab_ok ((tab_cons (f32.ok K) (tab_cons (f33.ok K) (tab_cons (f34.ok K) (tab_cons (f35.ok K) (tab_cons (f36.ok K) (tab_cons (f37.ok K) (tab_cons (f38.ok K) (tab_cons (f39.ok K) (tab_cons (f40.ok K) (tab_cons (f41.ok K) (tab_cons (f42.ok K) (tab_cons (f43.ok K) (tab_cons (f44.ok K) (tab_cons (f45.ok K) (tab_cons (f46.ok K) (tab_cons (f47.ok K) tab_nil)))))))))))))))))
theorem f3.loops (K : Nat) : LoopsOK Try.prog 126 0 (f3.lp K) f3.c := loops_ok (by
  have h : loopsIn (f3.lp K) f3.c = [] := by kernel_rfl
  rw [h]; simp)
def f3.T (K : Nat) (a0 : List Int) (a1 : List Int) (a2 : Int) : Option (Bool) :=
  (f32.F K (a0, a1)).bind fun y1 =>
  (f33.F K (a0, a1)).bind fun y2 =>
  (f34.F K (a0, a1)).bind fun y3 =>
  (f35.F K (a0, a1)).bind fun y4 =>
  (f36.F K (a0, a1)).bind fun y5 =>
  (f37.F K (a0, a1)).bind fun y6 =>
  bif (eqL 4 y1.1 y2.1 && true) then
    bif (y1.2 == y2.2) then
      bif (eqL 4 y3.1 y4.1 && true) then
        bif (y3.2 == y4.2) then
          bif (eqL 4 y5.1 y6.1 && true) then
            bif (eqL 4 y5.2 y6.2 && true) then
              (f38.F K (a0, a2)).bind fun y13 =>
              (f39.F K (a0, a2)).bind fun y14 =>
              bif (eqL 4 y13 y14 && true) then
                (f40.F K (a0, a2)).bind fun y16 =>
                (f41.F K (a0, a2)).bind fun y17 =>
                bif (y16 == y17) then
                  (f42.F K a0).bind fun y19 =>
                  (f43.F K a0).bind fun y20 =>
                  bif (y19 == y20) then
                    (f44.F K (a0, a1)).bind fun y22 =>
                    (f45.F K (a0, a1)).bind fun y23 =>
                    bif (y22 == y23) then
                      (f46.F K (List.getD a0 0 0)).bind fun y26 =>
                      (f47.F K (List.getD a0 0 0)).bind fun y28 =>
                      some (eqL 4 y26 y28 && true)
                    else
                      some false
                  else
                    some false
                else
                  some false
              else
                some false
            else
              some false
          else
            some false
        else
          some false
      else
        some false
    else
      some false
  else
    some false
def f3.F (K : Nat) (x : List Int × List Int × Int) : Option (Bool) := f3.T K x.1 x.2.1 x.2.2
def f3.mk (y : Bool) : VV := .bool y
def f3.inA : List VV → Option (List Int × List Int × Int)
  | [.agg [.ints .u64 4 a0], .agg [.ints .u64 4 a1], .int .i64 a2] => some (a0, a1, a2)
  | _ => none
def f3.shp (x : List Int × List Int × Int) : List VV := [.agg [.ints .u64 4 x.1], .agg [.ints .u64 4 x.2.1], .int .i64 x.2.2]
def f3.inR : VV → Option (Bool)
  | .bool y => some y
  | _ => none
noncomputable def f3.E (K : Nat) : Entry := pureE f3.inA (f3.F K) f3.mk
theorem f3.eq (K : Nat) (x : List Int × List Int × Int) : f3.F K x = xrun (getA tys) (tabSp (f3.tab K)) Try.f3.ntmps 0 (f3.lp K) 400 f3.c ⟨initL 0 (f3.shp x), [], 0⟩ (contF (getA tys) Try.f3.results.toList fun v _ => f3.inR v) := by kernel_rfl
theorem f3.ok (K : Nat) : EntryOK Try.prog 3 (f3.E K) :=
  pure_ok mix tys_ok (f3.tabOK K) Try.func3 (by kernel_rfl : Try.f3.body = some f3.c) (by kernel_rfl) (f3.loops K) (shp := f3.shp) (fuel := 400)
    (by intro vs x h; unfold f3.inA at h; split at h <;> simp at h; subst h; rfl) (by intro v y h; unfold f3.inR at h; split at h <;> simp at h; subst h; exact ⟨rfl, rfl⟩)
    (by intro x; exact ⟨Nat.le_of_ble_eq_true rfl, rfl⟩) (f3.eq K)
end Go.Proofs
