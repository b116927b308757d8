/- One Go function: a Lean function with the same answers, and the proof that the call comes to them. -/
import Derived.Test.YtjkelipglcnpmaaTy
namespace Go.Proofs
open Go.VM
/-! ### burrow/limbs.Mul$1 -/
noncomputable def f94.c : Code := bodyOf Try.f94
def f94.s0t (_K : Nat) (rec : Int × Int × List Int → Option (List Int)) (t0 : Int) (t5 : Int) (b0 : List Int) : Option (List Int) :=
  bif (decide (t5 > 0)) then
    let v20 := IntKind.wrap .i64 (Int.tdiv t0 8)
    let v21 := Int.tmod t0 8
    bif decide (0 ≤ v20 ∧ v20 < 2) then
      bif decide (0 ≤ v21 ∧ v21 < 8) then
        let v23 := IntKind.wrap .u64 (t5 + (List.getD b0 (((Int.toNat v20) * 8) + (Int.toNat v21)) 0))
        rec ((IntKind.wrap .i64 (t0 + 1)), (Int.fdiv v23 (2 ^ 32)), (setD b0 (((Int.toNat v20) * 8) + (Int.toNat v21)) (bits .and .u64 v23 4294967295)))
      else
        none
    else
      none
  else
    some b0
def f94.s0 (K : Nat) (rec : Int × Int × List Int → Option (List Int)) (x : Int × Int × List Int) : Option (List Int) := f94.s0t K rec x.1 x.2.1 x.2.2
noncomputable def f94.s0.b : Code := (findLoop 0 f94.c).getD .skip
def f94.s0.h : Hint := ⟨[0, 2, 5], [0], 1⟩
def f94.s0.ho : Hint := ⟨[], [0], 1⟩
def f94.s0.shp (x : Int × Int × List Int) : VS := ⟨[(0, .int .i64 x.1), (2, .ptr 0 0), (5, .int .u64 x.2.1)], [(0, ([.ints .u64 16 x.2.2], 80))], 1⟩
def f94.s0.inX : VS → Option (Int × Int × List Int)
  | ⟨[(0, .int .i64 t0), (2, .ptr 0 0), (5, .int .u64 t5)], [(0, ([.ints .u64 16 b0], 80))], 1⟩ => some (t0, t5, b0)
  | _ => none
def f94.s0.out (y : List Int) : Ex × VS := (.exit 0, ⟨[], [(0, ([.ints .u64 16 y], 80))], 1⟩)
def f94.s0.inY : Ex → VS → Option (List Int)
  | .exit 0, ⟨[], [(0, ([.ints .u64 16 b0], 80))], 1⟩ => some b0
  | _, _ => none
def f94.lp (K : Nat) : Nat → Option (Hint × Summ) := tabLp [(0, f94.s0.h, summOf (iter (f94.s0 K) K) f94.s0.inX f94.s0.out)]
noncomputable def f94.tab (_K : Nat) : List (Nat × Entry) := []
theorem f94.tabOK (K : Nat) : SpecOK Try.prog (tabSp (f94.tab K)) := tab_ok tab_nil
theorem f94.s0.eq (K : Nat) (rec : Int × Int × List Int → Option (List Int)) (x : Int × Int × List Int) : f94.s0 K rec x = roundL (getA tys) (tabSp (f94.tab K)) 29 1 (f94.lp K) 400 f94.s0.b f94.s0.h f94.s0.ho f94.s0.shp f94.s0.inX f94.s0.inY rec x := by kernel_rfl
theorem f94.s0.lok (K : Nat) : LoopsOK Try.prog 29 1 (f94.lp K) f94.s0.b := loops_ok (by
  have h : loopsIn (f94.lp K) f94.s0.b = [] := by kernel_rfl
  rw [h]; simp)
theorem f94.s0.ok (K : Nat) : SummOK Try.prog 29 1 (summOf (iter (f94.s0 K) K) f94.s0.inX f94.s0.out) f94.s0.h f94.s0.b := by
  exact loop_ok mix tys_ok (f94.tabOK K) (h := f94.s0.h) (ho := f94.s0.ho) (shp := f94.s0.shp) (inX := f94.s0.inX) (out := f94.s0.out) (inY := f94.s0.inY) (fuel := 400)
    (by intro st x h; unfold f94.s0.inX at h; split at h <;> simp at h; subst h; rfl)
    (by intro e st y h; unfold f94.s0.inY at h; split at h <;> simp at h <;> subst h <;> rfl)
    (f94.s0.lok K) (f94.s0 K) (f94.s0.eq K) K
theorem f94.loops (K : Nat) : LoopsOK Try.prog 29 1 (f94.lp K) f94.c := loops_ok (by
  have h : loopsIn (f94.lp K) f94.c = [(0, f94.s0.b)] := by kernel_rfl
  rw [h]
  intro p hp
  simp only [List.mem_cons, List.not_mem_nil, or_false] at hp
  rcases hp with rfl
  · exact ⟨_, rfl, f94.s0.ok K⟩)
def f94.T (K : Nat) (a0 : Int) (a1 : Int) (m0 : List Int) : Option (List Int) :=
  (iter (f94.s0 K) K (a0, a1, m0)).bind fun y28 =>
  some y28
def f94.F (K : Nat) (x : Int × Int × List Int) : Option (List Int) := f94.T K x.1 x.2.1 x.2.2
def f94.mk (_y : List Int) : VV := .tup []
def f94.inA : List VV → List (Nat × Blk) → Option ((Int × Int × List Int) × List Nat)
  | [.int .i64 a0, .int .u64 a1, .ptr b0 0], M => match getA M b0 with
    | some ([.ints .u64 16 m0], 80) => some ((a0, a1, m0), [b0])
    | _ => none
  | _, _ => none
def f94.shp (x : Int × Int × List Int) (σ : Nat → Nat) : List VV := [.int .i64 x.1, .int .u64 x.2.1, .ptr (σ 0) 0]
def f94.bi (x : Int × Int × List Int) : List Blk := [([.ints .u64 16 x.2.2], 80)]
def f94.bo (y : List Int) : List Blk := [([.ints .u64 16 y], 80)]
def f94.inR : VV → VS → Option (List Int)
  | .tup [], st => match getA st.M 0 with
    | some ([.ints .u64 16 z0], 80) => some z0
    | _ => none
  | _, _ => none
noncomputable def f94.E (K : Nat) : Entry := refE f94.inA (f94.F K) f94.mk f94.bo
theorem f94.eq (K : Nat) (x : Int × Int × List Int) : f94.F K x = xrun (getA tys) (tabSp (f94.tab K)) Try.f94.ntmps 1 (f94.lp K) 400 f94.c ⟨initL 0 (f94.shp x id), initM 0 (f94.bi x), 1⟩ (contF (getA tys) Try.f94.results.toList f94.inR) := by kernel_rfl
theorem f94.ok (K : Nat) : EntryOK Try.prog 94 (f94.E K) :=
  ref_ok mix tys_ok (f94.tabOK K) Try.func94 (by kernel_rfl : Try.f94.body = some f94.c) (by kernel_rfl) (f94.loops K) (shp := f94.shp) (bi := f94.bi) (fuel := 400)
    (by intro vs M x bs h; unfold f94.inA at h; split at h <;> try (simp at h)
        split at h <;> simp at h
        rename_i h0
        obtain ⟨rfl, rfl⟩ := h
        refine ⟨rfl, rfl, fun i hi => ?_, by simp⟩
        match i, hi with
        | 0, _ => exact h0)
    (by intro x; exact ⟨rfl, Nat.le_of_ble_eq_true rfl, by show ∀ i ∈ ([0] : List Nat), i < 1; decide, rfl, by intro b hb; simp only [f94.bi, List.mem_cons, List.not_mem_nil, or_false] at hb; rcases hb with rfl <;> exact ⟨rfl, rfl⟩⟩)
    (by intro x ρ σ; rfl)
    (by intro v st y h; unfold f94.inR at h; split at h <;> try (simp at h)
        split at h <;> simp at h
        rename_i h0
        subst h
        refine ⟨rfl, rfl, rfl, fun i hi => ?_, by intro b hb; simp only [f94.bo, List.mem_cons, List.not_mem_nil, or_false] at hb; rcases hb with rfl <;> exact ⟨rfl, rfl⟩⟩
        match i, hi with
        | 0, _ => exact h0)
    (f94.eq K)
end Go.Proofs
