/- Plain laws: lemmas that hold with no condition but those that each states. -/
import Derived.Test.YtmbbkmljmienjaaQ2
namespace Go.Proofs
open Go.VM
abbrev f32.Ty0 := Int × Int × List Int × Int × List Int × Int × List Int × List Int
abbrev f32.Ty1 := Int × List Int × Int × List Int × List Int
abbrev f32.Ty2 := List Int × List Int
abbrev f32.Ty3 := List Int × Int
noncomputable def f32.c : Code := bodyOf Try.f32
def f32.s2t (_K : Nat) (rec : f32.Ty0 → Option (f32.Ty1)) (t7 : Int) (t11 : Int) (t27 : List Int) (t28 : Int) (t49 : List Int) (t50 : Int) (b0 : List Int) (b1 : List Int) : Option (f32.Ty1) :=
  bif (decide (t50 < 2)) then
    bif decide (0 ≤ t50 ∧ t50 < 2) then
      bif (decide ((IntKind.wrap .i64 (t11 + t50)) ≥ 0)) then
        bif (decide ((IntKind.wrap .i64 (t11 + t50)) < 8)) then
          let v24 := IntKind.wrap .i64 (t11 + t50)
          bif decide (0 ≤ v24 ∧ v24 < 8) then
            bif decide (0 ≤ v24 ∧ v24 < 8) then
              rec (t7, t11, t27, t28, t49, (IntKind.wrap .i64 (t50 + 1)), b0, (setD b1 (Int.toNat v24) (bits .or .u64 (List.getD b1 (Int.toNat v24) 0) (List.getD t49 (Int.toNat t50) 0))))
            else
              none
          else
            none
        else
          rec (t7, t11, t27, t28, t49, (IntKind.wrap .i64 (t50 + 1)), b0, b1)
      else
        rec (t7, t11, t27, t28, t49, (IntKind.wrap .i64 (t50 + 1)), b0, b1)
    else
      none
  else
    some (t7, t27, t28, b0, b1)
def f32.s2 (K : Nat) (rec : f32.Ty0 → Option (f32.Ty1)) (x : f32.Ty0) : Option (f32.Ty1) := f32.s2t K rec x.1 x.2.1 x.2.2.1 x.2.2.2.1 x.2.2.2.2.1 x.2.2.2.2.2.1 x.2.2.2.2.2.2.1 x.2.2.2.2.2.2.2
noncomputable def f32.s2.b : Code := (findLoop 2 f32.c).getD .skip
def f32.s2.h : Hint := { lv := [4, 6, 7, 11, 27, 28, 49, 50] }
def f32.s2.ho : Hint := { lv := [4, 6, 7, 27, 28] }
def f32.s2.shp (x : f32.Ty0) : VS := ⟨[(4, .ptr 0 0), (6, .ptr 1 0), (7, .int .i64 x.1), (11, .int .i64 x.2.1), (27, .agg [.ints .u64 8 x.2.2.1]), (28, .int .i64 x.2.2.2.1), (49, .agg [.ints .u64 2 x.2.2.2.2.1]), (50, .int .i64 x.2.2.2.2.2.1)], [(0, ([.ints .u64 4 x.2.2.2.2.2.2.1], 39, .norm)), (1, ([.ints .u64 8 x.2.2.2.2.2.2.2], 88, .norm))], 2⟩
def f32.s2.inX : VS → Option (f32.Ty0)
  | ⟨[(4, .ptr 0 0), (6, .ptr 1 0), (7, .int .i64 t7), (11, .int .i64 t11), (27, .agg [.ints .u64 8 t27]), (28, .int .i64 t28), (49, .agg [.ints .u64 2 t49]), (50, .int .i64 t50)], [(0, ([.ints .u64 4 b0], 39, .norm)), (1, ([.ints .u64 8 b1], 88, .norm))], 2⟩ => some (t7, t11, t27, t28, t49, t50, b0, b1)
  | _ => none
def f32.s2.o0 (y : f32.Ty1) : VS := ⟨[(4, .ptr 0 0), (6, .ptr 1 0), (7, .int .i64 y.1), (27, .agg [.ints .u64 8 y.2.1]), (28, .int .i64 y.2.2.1)], [(0, ([.ints .u64 4 y.2.2.2.1], 39, .norm)), (1, ([.ints .u64 8 y.2.2.2.2], 88, .norm))], 2⟩
def f32.s2.des : ∀ α : Type, (f32.Ty1) → (Ex → VS → Option α) → Option α := (des1 (.exit 2) f32.s2.o0)
def f32.s2.out : f32.Ty1 → Ex × VS := (fun y => (.exit 2, f32.s2.o0 y))
theorem f32.s2.desOK : ∀ α y (k : Ex → VS → Option α), f32.s2.des α y k = k (f32.s2.out y).1 (f32.s2.out y).2 := (fun _ _ _ => rfl)
def f32.s2.inY : Ex → VS → Option (f32.Ty1)
  | .exit 2, ⟨[(4, .ptr 0 0), (6, .ptr 1 0), (7, .int .i64 t7), (27, .agg [.ints .u64 8 t27]), (28, .int .i64 t28)], [(0, ([.ints .u64 4 b0], 39, .norm)), (1, ([.ints .u64 8 b1], 88, .norm))], 2⟩ => some (t7, t27, t28, b0, b1)
  | _, _ => none
def f32.s0t (K : Nat) (rec : f32.Ty1 → Option (f32.Ty2)) (t7 : Int) (t27 : List Int) (t28 : Int) (b0 : List Int) (b1 : List Int) : Option (f32.Ty2) :=
  bif (decide (t28 < 8)) then
    bif decide (0 ≤ t28 ∧ t28 < 8) then
      let v8 := List.getD t27 (Int.toNat t28) 0
      let v10 := IntKind.wrap .i64 ((IntKind.wrap .i64 (t28 * 32)) + t7)
      let v13 := Int.tmod v10 32
      bif decide (0 ≤ v13) then
        bif decide (0 ≤ v13) then
          (iter (f32.s2 K) K (t7, (IntKind.wrap .i64 ((IntKind.wrap .i64 (Int.tdiv v10 32)) - 8)), t27, t28, [(bits .and .u64 (shiftI .shl .u64 v8 v13) 4294967295), (Int.fdiv (shiftI .shl .u64 v8 v13) (2 ^ 32))], 0, b0, b1)).bind fun y33 =>
          rec (y33.1, y33.2.1, (IntKind.wrap .i64 (y33.2.2.1 + 1)), y33.2.2.2.1, y33.2.2.2.2)
        else
          none
      else
        none
    else
      none
  else
    some (b0, b1)
def f32.s0 (K : Nat) (rec : f32.Ty1 → Option (f32.Ty2)) (x : f32.Ty1) : Option (f32.Ty2) := f32.s0t K rec x.1 x.2.1 x.2.2.1 x.2.2.2.1 x.2.2.2.2
noncomputable def f32.s0.b : Code := (findLoop 0 f32.c).getD .skip
def f32.s0.h : Hint := { lv := [4, 6, 7, 27, 28] }
def f32.s0.ho : Hint := { lv := [4, 6] }
def f32.s0.shp (x : f32.Ty1) : VS := ⟨[(4, .ptr 0 0), (6, .ptr 1 0), (7, .int .i64 x.1), (27, .agg [.ints .u64 8 x.2.1]), (28, .int .i64 x.2.2.1)], [(0, ([.ints .u64 4 x.2.2.2.1], 39, .norm)), (1, ([.ints .u64 8 x.2.2.2.2], 88, .norm))], 2⟩
def f32.s0.inX : VS → Option (f32.Ty1)
  | ⟨[(4, .ptr 0 0), (6, .ptr 1 0), (7, .int .i64 t7), (27, .agg [.ints .u64 8 t27]), (28, .int .i64 t28)], [(0, ([.ints .u64 4 b0], 39, .norm)), (1, ([.ints .u64 8 b1], 88, .norm))], 2⟩ => some (t7, t27, t28, b0, b1)
  | _ => none
def f32.s0.o0 (y : f32.Ty2) : VS := ⟨[(4, .ptr 0 0), (6, .ptr 1 0)], [(0, ([.ints .u64 4 y.1], 39, .norm)), (1, ([.ints .u64 8 y.2], 88, .norm))], 2⟩
def f32.s0.des : ∀ α : Type, (f32.Ty2) → (Ex → VS → Option α) → Option α := (des1 (.exit 0) f32.s0.o0)
def f32.s0.out : f32.Ty2 → Ex × VS := (fun y => (.exit 0, f32.s0.o0 y))
theorem f32.s0.desOK : ∀ α y (k : Ex → VS → Option α), f32.s0.des α y k = k (f32.s0.out y).1 (f32.s0.out y).2 := (fun _ _ _ => rfl)
def f32.s0.inY : Ex → VS → Option (f32.Ty2)
  | .exit 0, ⟨[(4, .ptr 0 0), (6, .ptr 1 0)], [(0, ([.ints .u64 4 b0], 39, .norm)), (1, ([.ints .u64 8 b1], 88, .norm))], 2⟩ => some (b0, b1)
  | _, _ => none
def f32.lp (K : Nat) : Nat → Option (Hint × Summ) := tabLp [(2, f32.s2.h, summOf (iter (f32.s2 K) K) f32.s2.inX f32.s2.des), (0, f32.s0.h, summOf (iter (f32.s0 K) K) f32.s0.inX f32.s0.des)]
noncomputable def f32.tab (K : Nat) : List (Nat × Entry) := [(62, (f62.E K)), (63, (f63.E K))]
theorem f32.tabOK (K : Nat) : SpecOK Try.prog (tabSp (f32.tab K)) := tab_ok ((tab_cons (f62.ok K) (tab_cons (f63.ok K) tab_nil)))
theorem f32.s2.eq (K : Nat) (rec : f32.Ty0 → Option (f32.Ty1)) (x : f32.Ty0) : f32.s2 K rec x = roundL (getA tys) (tabSp (f32.tab K)) 76 0 (f32.lp K) 400 f32.s2.b f32.s2.h f32.s2.ho f32.s2.shp f32.s2.inX f32.s2.inY rec x := by kernel_rfl
theorem f32.s2.lok (K : Nat) : LoopsOK Try.prog 76 0 (f32.lp K) f32.s2.b := loops_ok (by
  have h : loopsIn (f32.lp K) f32.s2.b = [] := by kernel_rfl
  rw [h]; simp)
theorem f32.s2.ok (K : Nat) : SummOK Try.prog 76 0 (summOf (iter (f32.s2 K) K) f32.s2.inX f32.s2.des) f32.s2.b :=
  loop_ok mix tys_ok (f32.tabOK K) (h := f32.s2.h) (ho := f32.s2.ho) (shp := f32.s2.shp) (inX := f32.s2.inX) (des := f32.s2.des) (out := f32.s2.out) (inY := f32.s2.inY) (fuel := 400)
    (by intro st x h; unfold f32.s2.inX at h; split at h <;> simp at h; subst h; rfl)
    (by intro e st y h; unfold f32.s2.inY at h; split at h <;> simp at h <;> subst h <;> rfl)
    f32.s2.desOK (f32.s2.lok K) (f32.s2 K) (f32.s2.eq K) K
theorem f32.s0.eq (K : Nat) (rec : f32.Ty1 → Option (f32.Ty2)) (x : f32.Ty1) : f32.s0 K rec x = roundL (getA tys) (tabSp (f32.tab K)) 76 0 (f32.lp K) 400 f32.s0.b f32.s0.h f32.s0.ho f32.s0.shp f32.s0.inX f32.s0.inY rec x := by kernel_rfl
theorem f32.s0.lok (K : Nat) : LoopsOK Try.prog 76 0 (f32.lp K) f32.s0.b := loops_ok (by
  have h : loopsIn (f32.lp K) f32.s0.b = [(2, f32.s2.b)] := by kernel_rfl
  rw [h]
  intro p hp
  simp only [List.mem_cons, List.not_mem_nil, or_false] at hp
  rcases hp with rfl
  · exact ⟨_, rfl, (f32.s2.ok K)⟩)
theorem f32.s0.ok (K : Nat) : SummOK Try.prog 76 0 (summOf (iter (f32.s0 K) K) f32.s0.inX f32.s0.des) f32.s0.b :=
  loop_ok mix tys_ok (f32.tabOK K) (h := f32.s0.h) (ho := f32.s0.ho) (shp := f32.s0.shp) (inX := f32.s0.inX) (des := f32.s0.des) (out := f32.s0.out) (inY := f32.s0.inY) (fuel := 400)
    (by intro st x h; unfold f32.s0.inX at h; split at h <;> simp at h; subst h; rfl)
    (by intro e st y h; unfold f32.s0.inY at h; split at h <;> simp at h <;> subst h <;> rfl)
    f32.s0.desOK (f32.s0.lok K) (f32.s0 K) (f32.s0.eq K) K
theorem f32.loops (K : Nat) : LoopsOK Try.prog 76 0 (f32.lp K) f32.c := loops_ok (by
  have h : loopsIn (f32.lp K) f32.c = [(0, f32.s0.b), (2, f32.s2.b)] := by kernel_rfl
  rw [h]
  intro p hp
  simp only [List.mem_cons, List.not_mem_nil, or_false] at hp
  rcases hp with rfl | rfl
  · exact ⟨_, rfl, (f32.s0.ok K)⟩
  · exact ⟨_, rfl, (f32.s2.ok K)⟩)
def f32.T (K : Nat) (a0 : List Int) (a1 : Int) : Option (List Int) :=
  (f62.F K a0).bind fun y1 =>
  bif (decide (a1 ≤ (-256))) then
    (f63.F K [0, 0, 0, 0, 0, 0, 0, 0]).bind fun y3 =>
    some y3
  else
    bif (decide (a1 ≥ 256)) then
      (f63.F K [0, 0, 0, 0, 0, 0, 0, 0]).bind fun y5 =>
      some y5
    else
      (iter (f32.s0 K) K ((IntKind.wrap .i64 (a1 + 256)), y1, 0, [0, 0, 0, 0], [0, 0, 0, 0, 0, 0, 0, 0])).bind fun y35 =>
      (f63.F K y35.2).bind fun y36 =>
      some y36
def f32.F (K : Nat) (x : f32.Ty3) : Option (List Int) := f32.T K x.1 x.2
def f32.av (x : f32.Ty3) : List VV := [.agg [.ints .u64 4 x.1], .int .i64 x.2]
def f32.bl (_x : f32.Ty3) : List (Nat × Blk) := []
def f32.inA : VS → Option (f32.Ty3)
  | ⟨[(0, .agg [.ints .u64 4 a0]), (1, .int .i64 a1)], [], 0⟩ => some (a0, a1)
  | _ => none
def f32.o0 (y : List Int) : VS := ⟨[(0, .agg [.ints .u64 4 y])], [], 0⟩
def f32.des : ∀ α : Type, (List Int) → (VS → Option α) → Option α := (dv1 f32.o0)
def f32.out : List Int → VS := f32.o0
def f32.inR : VS → Option (List Int)
  | ⟨[(0, .agg [.ints .u64 4 y])], [], 0⟩ => some y
  | _ => none
noncomputable def f32.E (K : Nat) : Entry := genE 0 f32.inA (f32.F K) f32.des
theorem f32.eq (K : Nat) (x : f32.Ty3) : f32.F K x = xrun (getA tys) (tabSp (f32.tab K)) Try.f32.ntmps 0 (f32.lp K) 400 f32.c ⟨initL 0 (f32.av x), f32.bl x, 0⟩ (contF (getA tys) 0 Try.f32.results.toList f32.inR) := by kernel_rfl
theorem f32.ok (K : Nat) : EntryOK Try.prog 32 (f32.E K) :=
  gen_ok mix tys_ok (f32.tabOK K) Try.func32 (by kernel_rfl : Try.f32.body = some f32.c) (by kernel_rfl) (f32.loops K) (av := f32.av) (bl := f32.bl) (out := f32.out) (fuel := 400)
    (by intro s x h; unfold f32.inA at h; split at h <;> simp at h; subst h; rfl) (fun _ => Nat.le_of_ble_eq_true rfl)
    (by intro s y h; unfold f32.inR at h; split at h <;> simp at h <;> subst h <;> rfl) (fun _ _ _ => rfl) (f32.eq K)
end Go.Proofs

namespace Go.Proofs
open Go.VM
theorem no_carry {x a c : Nat} (ha : a < 32) (hX : x < 2 ^ a) (hv : c * 2 ^ a < 2 ^ 32) : x + c * 2 ^ a < 2 ^ 32 ∧ x ||| (c * 2 ^ a) = x + c * 2 ^ a := by
  constructor
  · have e : 2 ^ 32 = 2 ^ (32 - a) * 2 ^ a := by rw [← Nat.pow_add]; congr 1; omega
    rw [e] at hv ⊢
    have : c < 2 ^ (32 - a) := Nat.lt_of_mul_lt_mul_right hv
    have h2 : (c + 1) * 2 ^ a ≤ 2 ^ (32 - a) * 2 ^ a := Nat.mul_le_mul_right _ this
    rw [Nat.add_mul] at h2
    omega
  · rw [Nat.or_comm, ← Nat.shiftLeft_eq, ← Nat.shiftLeft_add_eq_or_of_lt hX, Nat.add_comm]
theorem put_in (X t a c : Nat) (ha : a < 32) (hX : X / 2 ^ (32 * t) < 2 ^ a) (hv : c * 2 ^ a < 2 ^ 32) (h1 : 8 ≤ t) (h2 : t < 16) :
    vec 8 (fun j => if j = t - 8 then (X / 2 ^ 256 / 2 ^ (32 * (t - 8)) % 2 ^ 32) ||| (c * 2 ^ a) else X / 2 ^ 256 / 2 ^ (32 * j) % 2 ^ 32) = halves ((X + c * 2 ^ a * 2 ^ (32 * t)) / 2 ^ 256) := by
  obtain ⟨g1, g2⟩ := no_carry ha hX hv
  have e1 : X / 2 ^ 256 / 2 ^ (32 * (t - 8)) = X / 2 ^ (32 * t) := by
    rw [Nat.div_div_eq_div_mul, ← Nat.pow_add]; congr 2; omega
  have e2 : X / 2 ^ (32 * t) % 2 ^ 32 = X / 2 ^ (32 * t) := Nat.mod_eq_of_lt (Nat.lt_of_le_of_lt (Nat.le_add_right _ _) g1)
  rw [e1, e2, g2, set_words 32 8 (X / 2 ^ 256) (t - 8) _ g1]
  congr 1
  have e3 : (X + c * 2 ^ a * 2 ^ (32 * t)) / 2 ^ 256 = X / 2 ^ 256 + c * 2 ^ a * 2 ^ (32 * (t - 8)) := by
    rw [show 32 * t = 32 * (t - 8) + 256 by omega, Nat.pow_add _ _ 256, ← Nat.mul_assoc, Nat.add_mul_div_right _ _ (Nat.two_pow_pos 256)]
  rw [e3]
  conv => rhs; rw [split_word 32 (X / 2 ^ 256) (t - 8)]
  rw [e1, e2]
  generalize X / 2 ^ (32 * t) = x
  generalize c * 2 ^ a = v
  generalize X / 2 ^ 256 / 2 ^ (32 * (t - 8 + 1)) = H
  generalize X / 2 ^ 256 % 2 ^ (32 * (t - 8)) = l
  rw [Nat.mul_comm v]
  simp only [Nat.mul_add]
  omega
theorem put_low (X t a c : Nat) (ha : a < 32) (hX : X / 2 ^ (32 * t) < 2 ^ a) (hv : c * 2 ^ a < 2 ^ 32) (h1 : t < 8) : halves (X / 2 ^ 256) = halves ((X + c * 2 ^ a * 2 ^ (32 * t)) / 2 ^ 256) := by
  obtain ⟨g1, _⟩ := no_carry ha hX hv
  have h2 : (X + c * 2 ^ a * 2 ^ (32 * t)) / 2 ^ (32 * t) < 2 ^ 32 := by rw [Nat.add_mul_div_right _ _ (Nat.two_pow_pos _)]; exact g1
  have h3 : X + c * 2 ^ a * 2 ^ (32 * t) < 2 ^ 32 * 2 ^ (32 * t) := (Nat.div_lt_iff_lt_mul (Nat.two_pow_pos _)).1 h2
  have h4 : 2 ^ 32 * 2 ^ (32 * t) ≤ 2 ^ 256 := by rw [← Nat.pow_add]; exact Nat.pow_le_pow_right (by decide) (by omega)
  rw [Nat.div_eq_of_lt (by omega), Nat.div_eq_of_lt (by omega)]
theorem put_high (X t v : Nat) (h1 : 16 ≤ t) : halves (X / 2 ^ 256) = halves ((X + v * 2 ^ (32 * t)) / 2 ^ 256) := by
  have e : (X + v * 2 ^ (32 * t)) / 2 ^ 256 = X / 2 ^ 256 + v * 2 ^ (32 * (t - 16)) * 2 ^ 256 := by
    rw [show 32 * t = 32 * (t - 16) + 256 + 256 by omega, Nat.pow_add _ _ 256, Nat.pow_add _ _ 256, ← Nat.mul_assoc, ← Nat.mul_assoc, Nat.add_mul_div_right _ _ (Nat.two_pow_pos 256)]
  have h := words_mod 32 8 (X / 2 ^ 256)
  have h' := words_mod 32 8 (X / 2 ^ 256 + v * 2 ^ (32 * (t - 16)) * 2 ^ 256)
  rw [show (32 * 8 : Nat) = 256 from rfl, Nat.add_mul_mod_self_right] at h'
  rw [show (32 * 8 : Nat) = 256 from rfl] at h
  rw [e, halves, halves, ← h, h']
theorem f32.put (K F X t a c k i t0 : Nat) (hk : k < 2) (ht : t = t0 + k) (ht' : t0 < 40) (ha : a < 32) (hX : X / 2 ^ (32 * t) < 2 ^ a) (hv : c * 2 ^ a < 2 ^ 32) (ps : List Int) (hp : ps.getD k 0 = ((c * 2 ^ a : Nat) : Int)) (x z : List Int) (rec : _ → _) :
    f32.s2 K rec (F, (t0 : Int) - 8, x, i, ps, k, z, halves (X / 2 ^ 256)) = rec ((F : Int), (t0 : Int) - 8, x, (i : Int), ps, ((k + 1 : Nat) : Int), z, halves ((X + c * 2 ^ a * 2 ^ (32 * t)) / 2 ^ 256)) := by
  simp only [f32.s2, f32.s2t]
  have h1 : decide ((k : Int) < 2) = true := decide_eq_true (by omega)
  have h2 : decide ((0 : Int) ≤ (k : Int) ∧ (k : Int) < 2) = true := inR_nat (n := 2) hk
  have h3 : IntKind.wrap .i64 ((t0 : Int) - 8 + (k : Int)) = (t : Int) - 8 := by rw [wrap_i _ (by omega) (by omega)]; omega
  have h4 : IntKind.wrap .i64 ((k : Int) + 1) = ((k + 1 : Nat) : Int) := by rw [wrap_i _ (by omega) (by omega)]; omega
  rw [h1, h2, h3, h4]
  simp only [cond_true]
  by_cases hl : t < 8
  · rw [decide_eq_false (by omega : ¬ ((t : Int) - 8 ≥ 0))]
    simp only [cond_false]
    rw [put_low X t a c ha hX hv hl]
  · rw [decide_eq_true (by omega : ((t : Int) - 8 ≥ 0))]
    simp only [cond_true]
    by_cases hh : t < 16
    · have h5 : (t : Int) - 8 = ((t - 8 : Nat) : Int) := by omega
      rw [decide_eq_true (by omega : ((t : Int) - 8 < 8)), h5]
      have h6 : decide ((0 : Int) ≤ ((t - 8 : Nat) : Int) ∧ ((t - 8 : Nat) : Int) < 8) = true := inR_nat (n := 8) (by omega)
      rw [h6]
      simp only [cond_true, Int.toNat_natCast]
      rw [getD_words (show t - 8 < 8 by omega), hp, bits_or_u64_nat _ _ (Nat.lt_trans (Nat.mod_lt _ (by decide)) (by decide)) (by omega)]
      have h7 : halves (X / 2 ^ 256) = vec 8 (fun j => X / 2 ^ 256 / 2 ^ (32 * j) % 2 ^ 32) := rfl
      rw [h7, setD_vec (show t - 8 < 8 by omega), put_in X t a c ha hX hv (by omega) hh]
    · rw [decide_eq_false (by omega : ¬ ((t : Int) - 8 < 8))]
      simp only [cond_false]
      rw [put_high X t (c * 2 ^ a) (by omega)]
theorem split_shift (h u : Nat) (hu : u < 32) : h * 2 ^ u % 2 ^ 32 = h % 2 ^ (32 - u) * 2 ^ u := by
  have e : 2 ^ 32 = 2 ^ (32 - u) * 2 ^ u := by rw [← Nat.pow_add]; congr 1; omega
  rw [e, Nat.mul_mod_mul_right]
theorem parts_sum (M T q v : Nat) : M + v % q * T + v / q * 1 * (T * q) = M + v * T := by
  have h := Nat.mod_add_div v q
  have h2 : v % q * T + v / q * (T * q) = v * T := by
    conv => rhs; rw [← h]
    rw [Nat.add_mul, Nat.mul_comm q, Nat.mul_assoc, Nat.mul_comm q]
  rw [Nat.mul_one, Nat.add_assoc, h2]
theorem parts_mul (L a d u s : Nat) : (L + a * d) * (u * s) = L * (u * s) + d * u * (a * s) := by
  rw [Nat.add_mul]
  simp only [Nat.mul_comm, Nat.mul_left_comm]
theorem f32.round (K A F i : Nat) (hF : F < 512) (hi : i < 8) (hK : 2 < K) (rec : _ → _) (z : List Int) :
    f32.s0 K rec (F, halves A, i, z, halves (A % 2 ^ (32 * i) * 2 ^ F / 2 ^ 256)) = rec ((F : Int), halves A, ((i + 1 : Nat) : Int), z, halves (A % 2 ^ (32 * (i + 1)) * 2 ^ F / 2 ^ 256)) := by
  simp only [f32.s0, f32.s0t]
  have h1 : decide ((i : Int) < 8) = true := decide_eq_true (by omega)
  have h2 : decide ((0 : Int) ≤ (i : Int) ∧ (i : Int) < 8) = true := inR_nat (n := 8) hi
  have e1 : IntKind.wrap .i64 (IntKind.wrap .i64 ((i : Int) * 32) + (F : Int)) = ((32 * i + F : Nat) : Int) := by
    rw [wrap_i ((i : Int) * 32) (by omega) (by omega), wrap_i _ (by omega) (by omega)]; omega
  have e2 : Int.tmod ((32 * i + F : Nat) : Int) 32 = ((F % 32 : Nat) : Int) := by
    rw [show (32 : Int) = ((32 : Nat) : Int) from rfl, tmod_nat]; congr 1; omega
  have e3 : IntKind.wrap .i64 (IntKind.wrap .i64 (Int.tdiv ((32 * i + F : Nat) : Int) 32) - 8) = ((i + F / 32 : Nat) : Int) - 8 := by
    rw [show (32 : Int) = ((32 : Nat) : Int) from rfl, tdiv_nat, wrap_i ((_ : Nat) : Int) (by omega) (by omega), wrap_i _ (by omega) (by omega)]
    omega
  have h3 : decide ((0 : Int) ≤ ((F % 32 : Nat) : Int)) = true := decide_eq_true (by omega)
  rw [h1, h2, e1, e2, e3, h3]
  simp only [cond_true, Int.toNat_natCast]
  rw [getD_words hi]
  have hd : A / 2 ^ (32 * i) % 2 ^ 32 < 2 ^ 32 := Nat.mod_lt _ (by decide)
  have hu : F % 32 < 32 := Nat.mod_lt _ (by decide)
  have hmod : A % 2 ^ (32 * (i + 1)) = A % 2 ^ (32 * i) + 2 ^ (32 * i) * (A / 2 ^ (32 * i) % 2 ^ 32) := by
    rw [show 32 * (i + 1) = 32 * i + 32 from Nat.mul_succ _ _, Nat.pow_add _ _ 32, Nat.mod_mul]
  have hlow : A % 2 ^ (32 * i) < 2 ^ (32 * i) := Nat.mod_lt _ (Nat.two_pow_pos _)
  rw [hmod]
  generalize A % 2 ^ (32 * i) = L at *
  generalize A / 2 ^ (32 * i) % 2 ^ 32 = d at *
  have hF2 : 2 ^ F = 2 ^ (F % 32) * 2 ^ (32 * (F / 32)) := by rw [← Nat.pow_add]; congr 1; omega
  have ht : 2 ^ (32 * (i + F / 32)) = 2 ^ (32 * i) * 2 ^ (32 * (F / 32)) := by rw [Nat.mul_add, Nat.pow_add]
  have hp1 : 2 ^ (F % 32) ≤ 2 ^ 31 := Nat.pow_le_pow_right (by decide) (by omega)
  have hdu : d * 2 ^ (F % 32) < 2 ^ 63 := by
    calc d * 2 ^ (F % 32) ≤ d * 2 ^ 31 := Nat.mul_le_mul_left _ hp1
      _ < 2 ^ 32 * 2 ^ 31 := Nat.mul_lt_mul_of_pos_right hd (by decide)
      _ = 2 ^ 63 := by decide
  have e4 : shiftI .shl .u64 (d : Int) ((F % 32 : Nat) : Int) = ((d * 2 ^ (F % 32) : Nat) : Int) := by
    show IntKind.wrap .u64 ((d : Int) * 2 ^ (min (Int.toNat ((F % 32 : Nat) : Int)) 64)) = _
    rw [Int.toNat_natCast, Nat.min_eq_left (by omega), show (d : Int) * 2 ^ (F % 32) = ((d * 2 ^ (F % 32) : Nat) : Int) by simp, wrap_nat, Nat.mod_eq_of_lt (by omega)]
  rw [e4, and_mask32 _ (by omega), fdiv_nat]
  have hinv : L * 2 ^ F / 2 ^ (32 * (i + F / 32)) < 2 ^ (F % 32) := by
    rw [hF2, ht, ← Nat.mul_assoc, Nat.mul_div_mul_right _ _ (Nat.two_pow_pos _)]
    refine Nat.div_lt_of_lt_mul ?_
    exact Nat.mul_lt_mul_of_pos_right hlow (Nat.two_pow_pos _)
  have hlo := split_shift d (F % 32) hu
  obtain ⟨k, rfl⟩ : ∃ k, K = k + 3 := ⟨K - 3, by omega⟩
  have r0 := f32.put (k + 3) F (L * 2 ^ F) (i + F / 32) (F % 32) (d % 2 ^ (32 - F % 32)) 0 i (i + F / 32) (by decide) rfl (by omega) hu hinv (by rw [← hlo]; exact Nat.mod_lt _ (by decide))
    [((d * 2 ^ (F % 32) % 4294967296 : Nat) : Int), ((d * 2 ^ (F % 32) / 2 ^ 32 : Nat) : Int)] (by rw [← hlo]; rfl) (halves A) z (iter (f32.s2 (k + 3)) (k + 2))
  rw [← hlo] at r0
  have hX1 : (L * 2 ^ F + d * 2 ^ (F % 32) % 2 ^ 32 * 2 ^ (32 * (i + F / 32))) / 2 ^ (32 * (i + F / 32 + 1)) < 2 ^ 0 := by
    rw [Nat.pow_zero, Nat.lt_one_iff]
    refine Nat.div_eq_of_lt ?_
    obtain ⟨g1, _⟩ := no_carry hu hinv (show d % 2 ^ (32 - F % 32) * 2 ^ (F % 32) < 2 ^ 32 by rw [← hlo]; exact Nat.mod_lt _ (by decide))
    rw [← hlo] at g1
    rw [show 32 * (i + F / 32 + 1) = 32 * (i + F / 32) + 32 from Nat.mul_succ _ _, Nat.pow_add, Nat.mul_comm (2 ^ (32 * (i + F / 32))) (2 ^ 32)]
    refine (Nat.div_lt_iff_lt_mul (Nat.two_pow_pos _)).1 ?_
    rw [Nat.add_mul_div_right _ _ (Nat.two_pow_pos _)]
    exact g1
  have r1 := f32.put (k + 3) F _ (i + F / 32 + 1) 0 (d * 2 ^ (F % 32) / 2 ^ 32) 1 i (i + F / 32) (by decide) rfl (by omega) (by decide) hX1 (by rw [Nat.pow_zero, Nat.mul_one]; omega)
    [((d * 2 ^ (F % 32) % 4294967296 : Nat) : Int), ((d * 2 ^ (F % 32) / 2 ^ 32 : Nat) : Int)] (by rw [Nat.pow_zero, Nat.mul_one]; rfl) (halves A) z (iter (f32.s2 (k + 3)) (k + 1))
  have hsum : L * 2 ^ F + d * 2 ^ (F % 32) % 2 ^ 32 * 2 ^ (32 * (i + F / 32)) + d * 2 ^ (F % 32) / 2 ^ 32 * 2 ^ 0 * 2 ^ (32 * (i + F / 32 + 1)) = (L + 2 ^ (32 * i) * d) * 2 ^ F := by
    have e : 2 ^ (32 * (i + F / 32 + 1)) = 2 ^ (32 * (i + F / 32)) * 2 ^ 32 := by rw [show 32 * (i + F / 32 + 1) = 32 * (i + F / 32) + 32 from Nat.mul_succ _ _, Nat.pow_add 2 (32 * (i + F / 32)) 32]
    rw [e, Nat.pow_zero, parts_sum, ht, hF2]
    exact (parts_mul _ _ _ _ _).symm
  rw [hsum] at r1
  have fin : iter (f32.s2 (k + 3)) (k + 3) ((F : Int), ((i + F / 32 : Nat) : Int) - 8, halves A, (i : Int), [((d * 2 ^ (F % 32) % 4294967296 : Nat) : Int), ((d * 2 ^ (F % 32) / 2 ^ 32 : Nat) : Int)], 0, z, halves (L * 2 ^ F / 2 ^ 256)) =
      some ((F : Int), halves A, (i : Int), z, halves ((L + 2 ^ (32 * i) * d) * 2 ^ F / 2 ^ 256)) := by
    rw [iter]
    refine Eq.trans r0 ?_
    rw [iter]
    refine Eq.trans r1 ?_
    rw [iter]
    rfl
  rw [fin]
  simp only [Option.bind_some]
  rw [wrap_i _ (by omega) (by omega)]
  rfl
theorem f32.mid (K A F : Nat) (hA : A < 2 ^ 256) (h0 : 0 < F) (hF : F < 512) (hK : 8 < K) : f32.F K (num A, (F : Int) - 256) = some (num (A * 2 ^ F / 2 ^ 256)) := by
  simp only [f32.F, f32.T, f62.spec, Option.bind_some]
  rw [decide_eq_false (by omega : ¬ ((F : Int) - 256 ≤ -256)), decide_eq_false (by omega : ¬ ((F : Int) - 256 ≥ 256)), wrap_i _ (by omega) (by omega), show (F : Int) - 256 + 256 = (F : Int) by omega]
  simp only [cond_false]
  have key := iter_for (stp := f32.s0 K) (N := 8) (fun i => ((F : Int), halves A, (i : Int), ([0, 0, 0, 0] : List Int), halves (A % 2 ^ (32 * i) * 2 ^ F / 2 ^ 256)))
    (y := some (([0, 0, 0, 0] : List Int), halves (A * 2 ^ F / 2 ^ 256))) (fun i hi rec => f32.round K A F i hF hi (by omega) rec _) (fun rec => by
      simp only [f32.s0, f32.s0t]
      rw [show (32 * 8 : Nat) = 256 from rfl, Nat.mod_eq_of_lt hA]
      rfl) hK
  have e0 : A % 2 ^ (32 * 0) * 2 ^ F / 2 ^ 256 = 0 := by simp [Nat.mod_one]
  rw [e0] at key
  have key' : iter (f32.s0 K) K ((F : Int), halves A, 0, [0, 0, 0, 0], [0, 0, 0, 0, 0, 0, 0, 0]) = some (([0, 0, 0, 0] : List Int), halves (A * 2 ^ F / 2 ^ 256)) := key
  rw [key']
  simp only [Option.bind_some, f63.spec]
theorem f32.far (K A : Nat) (n : Int) (h : n ≤ -256 ∨ 256 ≤ n) : f32.F K (num A, n) = some (num 0) := by
  simp only [f32.F, f32.T, f62.spec, Option.bind_some]
  have e : f63.F K [0, 0, 0, 0, 0, 0, 0, 0] = some (num 0) := f63.spec K 0
  rw [e]
  by_cases h1 : n ≤ -256
  · rw [decide_eq_true h1]; rfl
  · rw [decide_eq_false h1, decide_eq_true (show n ≥ 256 by omega)]; rfl
theorem f32.up (K A n : Nat) (hA : A < 2 ^ 256) (hK : 8 < K) : f32.F K (num A, (n : Int)) = some (num (A * 2 ^ n)) := by
  rcases Nat.lt_or_ge n 256 with h | h
  · have := f32.mid K A (n + 256) hA (by omega) (by omega) hK
    rw [show ((n + 256 : Nat) : Int) - 256 = (n : Int) by omega, Nat.pow_add, ← Nat.mul_assoc, Nat.mul_div_cancel _ (Nat.two_pow_pos 256)] at this
    exact this
  · rw [f32.far K A n (.inr (by omega))]
    have := words_mod 64 4 (A * 2 ^ n)
    rw [show (64 * 4 : Nat) = 256 from rfl, show n = (n - 256) + 256 by omega, Nat.pow_add, ← Nat.mul_assoc, Nat.mul_mod_left] at this
    rw [num, this, show n = (n - 256) + 256 by omega, Nat.pow_add, ← Nat.mul_assoc]
    simp
theorem f32.down (K A n : Nat) (hA : A < 2 ^ 256) (hK : 8 < K) : f32.F K (num A, -(n : Int)) = some (num (A / 2 ^ n)) := by
  rcases Nat.lt_or_ge n 256 with h | h
  · have := f32.mid K A (256 - n) hA (by omega) (by omega) hK
    have e : A * 2 ^ (256 - n) / 2 ^ 256 = A / 2 ^ n := by
      have : (2 : Nat) ^ 256 = 2 ^ n * 2 ^ (256 - n) := by rw [← Nat.pow_add]; congr 1; omega
      rw [this, Nat.mul_div_mul_right _ _ (Nat.two_pow_pos _)]
    rw [show ((256 - n : Nat) : Int) - 256 = -(n : Int) by omega, e] at this
    exact this
  · rw [f32.far K A _ (.inl (by omega)), Nat.div_eq_of_lt (Nat.lt_of_lt_of_le hA (Nat.pow_le_pow_right (by decide) h))]
end Go.Proofs

namespace Go.Proofs
open Go.VM
theorem num_mod (A : Nat) : num (A % 2 ^ 256) = num A := words_mod 64 4 A
theorem eqL_num (A B : Nat) : eqL 4 (num A) (num B) = decide (A % 2 ^ 256 = B % 2 ^ 256) := by
  rw [← num_mod A, ← num_mod B]
  exact eqL_words (w := 64) (n := 4) (Nat.mod_lt _ (Nat.two_pow_pos 256)) (Nat.mod_lt _ (Nat.two_pow_pos 256))
theorem f70.all (A B : Nat) : f70.F 100000 (num A, num B) = some (num (A + B), (((A % 2 ^ 256 + B % 2 ^ 256) / 2 ^ 256 : Nat) : Int)) := by
  rw [f70.spec 100000 A B (by decide)]
  simp only [carry, Nat.add_zero]
theorem f67.all (A B : Nat) : f67.F 100000 (num A, num B) = some (num (A % 2 ^ 256 + 2 ^ 256 - B % 2 ^ 256), ((if A % 2 ^ 256 < B % 2 ^ 256 then 1 else 0 : Nat) : Int)) := by
  rw [← num_mod A, ← num_mod B, f67.spec 100000 _ _ (Nat.mod_lt _ (Nat.two_pow_pos 256)) (Nat.mod_lt _ (Nat.two_pow_pos 256)) (by decide)]
theorem f35.all (A B : Nat) : f35.F 100000 (num A, num B) = some (cmp (A % 2 ^ 256) (B % 2 ^ 256)) := by
  rw [← num_mod A, ← num_mod B, f35.spec 100000 _ _ (Nat.mod_lt _ (Nat.two_pow_pos 256)) (Nat.mod_lt _ (Nat.two_pow_pos 256)) (by decide)]
theorem f33.one (K : Nat) : f33.F K 1 = some (num 1) := f33.spec K 1 (by decide)
theorem mod_self_of {A : Nat} (hA : A < 2 ^ 256) : A % 2 ^ 256 = A := Nat.mod_eq_of_lt hA
end Go.Proofs

namespace Go.Proofs
open Go.VM
end Go.Proofs

namespace Go.Proofs
open Go.VM
theorem f32.upA (A n : Nat) : f32.F 100000 (num A, (n : Int)) = some (num (A % 2 ^ 256 * 2 ^ n)) := by
  rw [← num_mod A, f32.up 100000 _ n (Nat.mod_lt _ (Nat.two_pow_pos 256)) (by decide)]
theorem f32.downA (A n : Nat) : f32.F 100000 (num A, -(n : Int)) = some (num (A % 2 ^ 256 / 2 ^ n)) := by
  rw [← num_mod A, f32.down 100000 _ n (Nat.mod_lt _ (Nat.two_pow_pos 256)) (by decide)]
theorem f83.all (A i : Nat) (hi : i < 9223372036854775808) : f83.F 100000 (num A, (i : Int)) = some ((A % 2 ^ 256 / 2 ^ i % 2 : Nat) : Int) := by
  rw [← num_mod A, f83.spec 100000 _ i hi (Nat.mod_lt _ (Nat.two_pow_pos 256))]
theorem f66.all (A : Nat) : f66.F 100000 (num A) = some ((blen (A % 2 ^ 256) : Nat) : Int) := by
  rw [← num_mod A, f66.spec 100000 _ (Nat.mod_lt _ (Nat.two_pow_pos 256)) (by decide)]
theorem wf_u8 {z : Int} (h : (Lit.int .u8 z).wf = true) : ∃ n : Nat, n < 256 ∧ z = (n : Int) := by
  simp [Lit.wf, IntKind.min, IntKind.max, IntKind.signed, IntKind.bits] at h
  exact ⟨z.toNat, by omega, by omega⟩
end Go.Proofs

namespace Go.Proofs
open Go.VM
theorem f33.nat (K n : Nat) (h : n < 18446744073709551616) : f33.F K (n : Int) = some (num n) := f33.spec K n h
end Go.Proofs

namespace Go.Proofs
open Go.VM
abbrev f73.Ty0 := Int × Int × List Int × List Int × List Int
abbrev f73.Ty1 := Int × List Int × List Int
abbrev f73.Ty2 := List Int × List Int
abbrev f73.Ty3 := List Int × Int
noncomputable def f73.c : Code := bodyOf Try.f73
def f73.s0t (_K : Nat) (rec : f73.Ty0 → Option (f73.Ty1)) (t6 : Int) (t7 : Int) (b0 : List Int) (b1 : List Int) (b2 : List Int) : Option (f73.Ty1) :=
  bif (decide (t7 < 4)) then
    bif decide (0 ≤ t7 ∧ t7 < 4) then
      bif decide (0 ≤ t7 ∧ t7 < 4) then
        let v6 := IntKind.wrap .u64 ((List.getD b0 (Int.toNat t7) 0) + (List.getD b1 (Int.toNat t7) 0))
        let v7 := IntKind.wrap .u64 (v6 + t6)
        bif decide (0 ≤ t7 ∧ t7 < 4) then
          bif (decide (v6 < (List.getD b1 (Int.toNat t7) 0))) then
            bif decide (0 ≤ t7 ∧ t7 < 4) then
              rec (1, (IntKind.wrap .i64 (t7 + 1)), (setD b0 (Int.toNat t7) v7), b1, b2)
            else
              none
          else
            bif (decide (v7 < t6)) then
              bif decide (0 ≤ t7 ∧ t7 < 4) then
                rec (1, (IntKind.wrap .i64 (t7 + 1)), (setD b0 (Int.toNat t7) v7), b1, b2)
              else
                none
            else
              bif decide (0 ≤ t7 ∧ t7 < 4) then
                rec (0, (IntKind.wrap .i64 (t7 + 1)), (setD b0 (Int.toNat t7) v7), b1, b2)
              else
                none
        else
          none
      else
        none
    else
      none
  else
    some (t6, b0, b2)
def f73.s0 (K : Nat) (rec : f73.Ty0 → Option (f73.Ty1)) (x : f73.Ty0) : Option (f73.Ty1) := f73.s0t K rec x.1 x.2.1 x.2.2.1 x.2.2.2.1 x.2.2.2.2
noncomputable def f73.s0.b : Code := (findLoop 0 f73.c).getD .skip
def f73.s0.h : Hint := { lv := [2, 3, 4, 6, 7] }
def f73.s0.ho : Hint := { lv := [2, 4, 6] }
def f73.s0.shp (x : f73.Ty0) : VS := ⟨[(2, .ptr 0 0), (3, .ptr 1 0), (4, .ptr 2 0), (6, .int .u64 x.1), (7, .int .i64 x.2.1)], [(0, ([.ints .u64 4 x.2.2.1], 39, .norm)), (1, ([.ints .u64 4 x.2.2.2.1], 39, .norm)), (2, ([.ints .u64 4 x.2.2.2.2], 39, .norm))], 3⟩
def f73.s0.inX : VS → Option (f73.Ty0)
  | ⟨[(2, .ptr 0 0), (3, .ptr 1 0), (4, .ptr 2 0), (6, .int .u64 t6), (7, .int .i64 t7)], [(0, ([.ints .u64 4 b0], 39, .norm)), (1, ([.ints .u64 4 b1], 39, .norm)), (2, ([.ints .u64 4 b2], 39, .norm))], 3⟩ => some (t6, t7, b0, b1, b2)
  | _ => none
def f73.s0.o0 (y : f73.Ty1) : VS := ⟨[(2, .ptr 0 0), (4, .ptr 1 0), (6, .int .u64 y.1)], [(0, ([.ints .u64 4 y.2.1], 39, .norm)), (1, ([.ints .u64 4 y.2.2], 39, .norm))], 2⟩
def f73.s0.des : ∀ α : Type, (f73.Ty1) → (Ex → VS → Option α) → Option α := (des1 (.exit 0) f73.s0.o0)
def f73.s0.out : f73.Ty1 → Ex × VS := (fun y => (.exit 0, f73.s0.o0 y))
theorem f73.s0.desOK : ∀ α y (k : Ex → VS → Option α), f73.s0.des α y k = k (f73.s0.out y).1 (f73.s0.out y).2 := (fun _ _ _ => rfl)
def f73.s0.inY : Ex → VS → Option (f73.Ty1)
  | .exit 0, ⟨[(2, .ptr 0 0), (4, .ptr 1 0), (6, .int .u64 t6)], [(0, ([.ints .u64 4 b0], 39, .norm)), (1, ([.ints .u64 4 b1], 39, .norm))], 2⟩ => some (t6, b0, b1)
  | _, _ => none
def f73.lp (K : Nat) : Nat → Option (Hint × Summ) := tabLp [(0, f73.s0.h, summOf (iter (f73.s0 K) K) f73.s0.inX f73.s0.des)]
noncomputable def f73.tab (_K : Nat) : List (Nat × Entry) := []
theorem f73.tabOK (K : Nat) : SpecOK Try.prog (tabSp (f73.tab K)) := tab_ok ( tab_nil)
theorem f73.s0.eq (K : Nat) (rec : f73.Ty0 → Option (f73.Ty1)) (x : f73.Ty0) : f73.s0 K rec x = roundL (getA tys) (tabSp (f73.tab K)) 39 0 (f73.lp K) 400 f73.s0.b f73.s0.h f73.s0.ho f73.s0.shp f73.s0.inX f73.s0.inY rec x := by kernel_rfl
theorem f73.s0.lok (K : Nat) : LoopsOK Try.prog 39 0 (f73.lp K) f73.s0.b := loops_ok (by
  have h : loopsIn (f73.lp K) f73.s0.b = [] := by kernel_rfl
  rw [h]; simp)
theorem f73.s0.ok (K : Nat) : SummOK Try.prog 39 0 (summOf (iter (f73.s0 K) K) f73.s0.inX f73.s0.des) f73.s0.b :=
  loop_ok mix tys_ok (f73.tabOK K) (h := f73.s0.h) (ho := f73.s0.ho) (shp := f73.s0.shp) (inX := f73.s0.inX) (des := f73.s0.des) (out := f73.s0.out) (inY := f73.s0.inY) (fuel := 400)
    (by intro st x h; unfold f73.s0.inX at h; split at h <;> simp at h; subst h; rfl)
    (by intro e st y h; unfold f73.s0.inY at h; split at h <;> simp at h <;> subst h <;> rfl)
    f73.s0.desOK (f73.s0.lok K) (f73.s0 K) (f73.s0.eq K) K
theorem f73.loops (K : Nat) : LoopsOK Try.prog 39 0 (f73.lp K) f73.c := loops_ok (by
  have h : loopsIn (f73.lp K) f73.c = [(0, f73.s0.b)] := by kernel_rfl
  rw [h]
  intro p hp
  simp only [List.mem_cons, List.not_mem_nil, or_false] at hp
  rcases hp with rfl
  · exact ⟨_, rfl, (f73.s0.ok K)⟩)
def f73.T (K : Nat) (a0 : List Int) (a1 : List Int) : Option (f73.Ty3) :=
  (iter (f73.s0 K) K (0, 0, a0, a1, [0, 0, 0, 0])).bind fun y21 =>
  some (y21.2.1, y21.1)
def f73.F (K : Nat) (x : f73.Ty2) : Option (f73.Ty3) := f73.T K x.1 x.2
def f73.av (x : f73.Ty2) : List VV := [.agg [.ints .u64 4 x.1], .agg [.ints .u64 4 x.2]]
def f73.bl (_x : f73.Ty2) : List (Nat × Blk) := []
def f73.inA : VS → Option (f73.Ty2)
  | ⟨[(0, .agg [.ints .u64 4 a0]), (1, .agg [.ints .u64 4 a1])], [], 0⟩ => some (a0, a1)
  | _ => none
def f73.o0 (y : f73.Ty3) : VS := ⟨[(0, .tup [.agg [.ints .u64 4 y.1], .int .u64 y.2])], [], 0⟩
def f73.des : ∀ α : Type, (f73.Ty3) → (VS → Option α) → Option α := (dv1 f73.o0)
def f73.out : f73.Ty3 → VS := f73.o0
def f73.inR : VS → Option (f73.Ty3)
  | ⟨[(0, .tup [.agg [.ints .u64 4 y_0], .int .u64 y_1])], [], 0⟩ => some (y_0, y_1)
  | _ => none
noncomputable def f73.E (K : Nat) : Entry := genE 0 f73.inA (f73.F K) f73.des
theorem f73.eq (K : Nat) (x : f73.Ty2) : f73.F K x = xrun (getA tys) (tabSp (f73.tab K)) Try.f73.ntmps 0 (f73.lp K) 400 f73.c ⟨initL 0 (f73.av x), f73.bl x, 0⟩ (contF (getA tys) 0 Try.f73.results.toList f73.inR) := by kernel_rfl
theorem f73.ok (K : Nat) : EntryOK Try.prog 73 (f73.E K) :=
  gen_ok mix tys_ok (f73.tabOK K) Try.func73 (by kernel_rfl : Try.f73.body = some f73.c) (by kernel_rfl) (f73.loops K) (av := f73.av) (bl := f73.bl) (out := f73.out) (fuel := 400)
    (by intro s x h; unfold f73.inA at h; split at h <;> simp at h; subst h; rfl) (fun _ => Nat.le_of_ble_eq_true rfl)
    (by intro s y h; unfold f73.inR at h; split at h <;> simp at h <;> subst h <;> rfl) (fun _ _ _ => rfl) (f73.eq K)
end Go.Proofs

namespace Go.Proofs
open Go.VM
abbrev f72.Ty0 := Int × Int × List Int × List Int × List Int
abbrev f72.Ty1 := Int × List Int × List Int
abbrev f72.Ty2 := List Int × List Int
abbrev f72.Ty3 := List Int × Int
noncomputable def f72.c : Code := bodyOf Try.f72
def f72.s0t (_K : Nat) (rec : f72.Ty0 → Option (f72.Ty1)) (t6 : Int) (t7 : Int) (b0 : List Int) (b1 : List Int) (b2 : List Int) : Option (f72.Ty1) :=
  bif (decide (t7 < 4)) then
    bif decide (0 ≤ t7 ∧ t7 < 4) then
      bif decide (0 ≤ t7 ∧ t7 < 4) then
        let v6 := IntKind.wrap .u64 ((List.getD b0 (Int.toNat t7) 0) - (List.getD b1 (Int.toNat t7) 0))
        let v7 := IntKind.wrap .u64 (v6 - t6)
        bif decide (0 ≤ t7 ∧ t7 < 4) then
          bif decide (0 ≤ t7 ∧ t7 < 4) then
            bif (decide ((List.getD b0 (Int.toNat t7) 0) < (List.getD b1 (Int.toNat t7) 0))) then
              bif decide (0 ≤ t7 ∧ t7 < 4) then
                rec (1, (IntKind.wrap .i64 (t7 + 1)), (setD b0 (Int.toNat t7) v7), b1, b2)
              else
                none
            else
              bif (decide (v6 < t6)) then
                bif decide (0 ≤ t7 ∧ t7 < 4) then
                  rec (1, (IntKind.wrap .i64 (t7 + 1)), (setD b0 (Int.toNat t7) v7), b1, b2)
                else
                  none
              else
                bif decide (0 ≤ t7 ∧ t7 < 4) then
                  rec (0, (IntKind.wrap .i64 (t7 + 1)), (setD b0 (Int.toNat t7) v7), b1, b2)
                else
                  none
          else
            none
        else
          none
      else
        none
    else
      none
  else
    some (t6, b0, b2)
def f72.s0 (K : Nat) (rec : f72.Ty0 → Option (f72.Ty1)) (x : f72.Ty0) : Option (f72.Ty1) := f72.s0t K rec x.1 x.2.1 x.2.2.1 x.2.2.2.1 x.2.2.2.2
noncomputable def f72.s0.b : Code := (findLoop 0 f72.c).getD .skip
def f72.s0.h : Hint := { lv := [2, 3, 4, 6, 7] }
def f72.s0.ho : Hint := { lv := [2, 4, 6] }
def f72.s0.shp (x : f72.Ty0) : VS := ⟨[(2, .ptr 0 0), (3, .ptr 1 0), (4, .ptr 2 0), (6, .int .u64 x.1), (7, .int .i64 x.2.1)], [(0, ([.ints .u64 4 x.2.2.1], 39, .norm)), (1, ([.ints .u64 4 x.2.2.2.1], 39, .norm)), (2, ([.ints .u64 4 x.2.2.2.2], 39, .norm))], 3⟩
def f72.s0.inX : VS → Option (f72.Ty0)
  | ⟨[(2, .ptr 0 0), (3, .ptr 1 0), (4, .ptr 2 0), (6, .int .u64 t6), (7, .int .i64 t7)], [(0, ([.ints .u64 4 b0], 39, .norm)), (1, ([.ints .u64 4 b1], 39, .norm)), (2, ([.ints .u64 4 b2], 39, .norm))], 3⟩ => some (t6, t7, b0, b1, b2)
  | _ => none
def f72.s0.o0 (y : f72.Ty1) : VS := ⟨[(2, .ptr 0 0), (4, .ptr 1 0), (6, .int .u64 y.1)], [(0, ([.ints .u64 4 y.2.1], 39, .norm)), (1, ([.ints .u64 4 y.2.2], 39, .norm))], 2⟩
def f72.s0.des : ∀ α : Type, (f72.Ty1) → (Ex → VS → Option α) → Option α := (des1 (.exit 0) f72.s0.o0)
def f72.s0.out : f72.Ty1 → Ex × VS := (fun y => (.exit 0, f72.s0.o0 y))
theorem f72.s0.desOK : ∀ α y (k : Ex → VS → Option α), f72.s0.des α y k = k (f72.s0.out y).1 (f72.s0.out y).2 := (fun _ _ _ => rfl)
def f72.s0.inY : Ex → VS → Option (f72.Ty1)
  | .exit 0, ⟨[(2, .ptr 0 0), (4, .ptr 1 0), (6, .int .u64 t6)], [(0, ([.ints .u64 4 b0], 39, .norm)), (1, ([.ints .u64 4 b1], 39, .norm))], 2⟩ => some (t6, b0, b1)
  | _, _ => none
def f72.lp (K : Nat) : Nat → Option (Hint × Summ) := tabLp [(0, f72.s0.h, summOf (iter (f72.s0 K) K) f72.s0.inX f72.s0.des)]
noncomputable def f72.tab (_K : Nat) : List (Nat × Entry) := []
theorem f72.tabOK (K : Nat) : SpecOK Try.prog (tabSp (f72.tab K)) := tab_ok ( tab_nil)
theorem f72.s0.eq (K : Nat) (rec : f72.Ty0 → Option (f72.Ty1)) (x : f72.Ty0) : f72.s0 K rec x = roundL (getA tys) (tabSp (f72.tab K)) 41 0 (f72.lp K) 400 f72.s0.b f72.s0.h f72.s0.ho f72.s0.shp f72.s0.inX f72.s0.inY rec x := by kernel_rfl
theorem f72.s0.lok (K : Nat) : LoopsOK Try.prog 41 0 (f72.lp K) f72.s0.b := loops_ok (by
  have h : loopsIn (f72.lp K) f72.s0.b = [] := by kernel_rfl
  rw [h]; simp)
theorem f72.s0.ok (K : Nat) : SummOK Try.prog 41 0 (summOf (iter (f72.s0 K) K) f72.s0.inX f72.s0.des) f72.s0.b :=
  loop_ok mix tys_ok (f72.tabOK K) (h := f72.s0.h) (ho := f72.s0.ho) (shp := f72.s0.shp) (inX := f72.s0.inX) (des := f72.s0.des) (out := f72.s0.out) (inY := f72.s0.inY) (fuel := 400)
    (by intro st x h; unfold f72.s0.inX at h; split at h <;> simp at h; subst h; rfl)
    (by intro e st y h; unfold f72.s0.inY at h; split at h <;> simp at h <;> subst h <;> rfl)
    f72.s0.desOK (f72.s0.lok K) (f72.s0 K) (f72.s0.eq K) K
theorem f72.loops (K : Nat) : LoopsOK Try.prog 41 0 (f72.lp K) f72.c := loops_ok (by
  have h : loopsIn (f72.lp K) f72.c = [(0, f72.s0.b)] := by kernel_rfl
  rw [h]
  intro p hp
  simp only [List.mem_cons, List.not_mem_nil, or_false] at hp
  rcases hp with rfl
  · exact ⟨_, rfl, (f72.s0.ok K)⟩)
def f72.T (K : Nat) (a0 : List Int) (a1 : List Int) : Option (f72.Ty3) :=
  (iter (f72.s0 K) K (0, 0, a0, a1, [0, 0, 0, 0])).bind fun y23 =>
  some (y23.2.1, y23.1)
def f72.F (K : Nat) (x : f72.Ty2) : Option (f72.Ty3) := f72.T K x.1 x.2
def f72.av (x : f72.Ty2) : List VV := [.agg [.ints .u64 4 x.1], .agg [.ints .u64 4 x.2]]
def f72.bl (_x : f72.Ty2) : List (Nat × Blk) := []
def f72.inA : VS → Option (f72.Ty2)
  | ⟨[(0, .agg [.ints .u64 4 a0]), (1, .agg [.ints .u64 4 a1])], [], 0⟩ => some (a0, a1)
  | _ => none
def f72.o0 (y : f72.Ty3) : VS := ⟨[(0, .tup [.agg [.ints .u64 4 y.1], .int .u64 y.2])], [], 0⟩
def f72.des : ∀ α : Type, (f72.Ty3) → (VS → Option α) → Option α := (dv1 f72.o0)
def f72.out : f72.Ty3 → VS := f72.o0
def f72.inR : VS → Option (f72.Ty3)
  | ⟨[(0, .tup [.agg [.ints .u64 4 y_0], .int .u64 y_1])], [], 0⟩ => some (y_0, y_1)
  | _ => none
noncomputable def f72.E (K : Nat) : Entry := genE 0 f72.inA (f72.F K) f72.des
theorem f72.eq (K : Nat) (x : f72.Ty2) : f72.F K x = xrun (getA tys) (tabSp (f72.tab K)) Try.f72.ntmps 0 (f72.lp K) 400 f72.c ⟨initL 0 (f72.av x), f72.bl x, 0⟩ (contF (getA tys) 0 Try.f72.results.toList f72.inR) := by kernel_rfl
theorem f72.ok (K : Nat) : EntryOK Try.prog 72 (f72.E K) :=
  gen_ok mix tys_ok (f72.tabOK K) Try.func72 (by kernel_rfl : Try.f72.body = some f72.c) (by kernel_rfl) (f72.loops K) (av := f72.av) (bl := f72.bl) (out := f72.out) (fuel := 400)
    (by intro s x h; unfold f72.inA at h; split at h <;> simp at h; subst h; rfl) (fun _ => Nat.le_of_ble_eq_true rfl)
    (by intro s y h; unfold f72.inR at h; split at h <;> simp at h <;> subst h <;> rfl) (fun _ _ _ => rfl) (f72.eq K)
end Go.Proofs

namespace Go.Proofs
open Go.VM
def f87.T (_K : Nat) (a0 : Int) : Option (List Int) :=
  some ([a0, 0, 0, 0])
def f87.F (K : Nat) (x : Int) : Option (List Int) := f87.T K x
def f87.av (x : Int) : List VV := [.int .u64 x]
def f87.bl (_x : Int) : List (Nat × Blk) := []
def f87.inA : VS → Option (Int)
  | ⟨[(0, .int .u64 a0)], [], 0⟩ => some a0
  | _ => none
def f87.o0 (y : List Int) : VS := ⟨[(0, .agg [.ints .u64 4 y])], [], 0⟩
def f87.inR : VS → Option (List Int)
  | ⟨[(0, .agg [.ints .u64 4 y])], [], 0⟩ => some y
  | _ => none
noncomputable def f87.E (K : Nat) : Entry := genE 0 f87.inA (f87.F K) (dv1 f87.o0)
theorem f87.ok (K : Nat) : EntryOK Try.prog 87 (f87.E K) := gen_ok mix tys_ok (tab_ok ( tab_nil)) Try.func87 (c := bodyOf Try.f87) (by kernel_rfl) (by kernel_rfl) (loops_none (lp := lpNone) (by kernel_rfl)) (av := f87.av) (bl := f87.bl) (inR := f87.inR) (out := f87.o0) (fuel := 400)
  (by intro s x h; unfold f87.inA at h; split at h <;> simp at h; subst h; rfl) (fun _ => Nat.le_of_ble_eq_true rfl)
  (by intro s y h; unfold f87.inR at h; split at h <;> simp at h <;> subst h <;> rfl) (fun _ _ _ => rfl) (fun _ => by kernel_rfl)
end Go.Proofs

namespace Go.Proofs
open Go.VM
theorem f87.spec (K n : Nat) (h : n < 18446744073709551616) : f87.F K (n : Int) = some (num n) := f33.spec K n h
theorem f73.round (K i : Nat) (hi : i < 4) (rec : _ → _) (f g : Nat → Nat) (c : Nat) (hf : f i < 18446744073709551616) (hg : g i < 18446744073709551616) (hc : c ≤ 1) (z : List Int) :
    f73.s0 K rec (c, i, vec 4 f, vec 4 g, z) = rec ((((c + f i + g i) / 18446744073709551616 : Nat) : Int), ((i + 1 : Nat) : Int), vec 4 (fun j => if j = i then (c + f i + g i) % 18446744073709551616 else f j), vec 4 g, z) := by
  simp only [f73.s0, f73.s0t]
  have h1 : decide ((i : Int) < 4) = true := decide_eq_true (by omega)
  have h2 : decide ((0 : Int) ≤ (i : Int) ∧ (i : Int) < 4) = true := inR_nat (n := 4) hi
  have w1 : IntKind.wrap .i64 ((i : Int) + 1) = ((i + 1 : Nat) : Int) := by rw [wrap_i _ (by omega) (by omega)]; omega
  rw [h1, h2, w1]
  simp only [cond_true, Int.toNat_natCast, getD_vec hi]
  have e1 : IntKind.wrap .u64 ((f i : Int) + (g i : Int)) = (((f i + g i) % 18446744073709551616 : Nat) : Int) := by rw [← Int.natCast_add, wrap_nat]
  have e2 : IntKind.wrap .u64 ((((f i + g i) % 18446744073709551616 : Nat) : Int) + (c : Int)) = (((c + f i + g i) % 18446744073709551616 : Nat) : Int) := by rw [← Int.natCast_add, wrap_nat]; congr 1; omega
  rw [e1, e2, setD_vec hi]
  by_cases h : f i + g i < 18446744073709551616
  · have d1 : decide ((((f i + g i) % 18446744073709551616 : Nat) : Int) < (g i : Int)) = false := decide_eq_false (by omega)
    rw [d1]
    simp only [cond_false]
    by_cases h' : c + f i + g i < 18446744073709551616
    · have d2 : decide ((((c + f i + g i) % 18446744073709551616 : Nat) : Int) < (c : Int)) = false := decide_eq_false (by omega)
      rw [d2, Nat.div_eq_of_lt h']
      rfl
    · have d2 : decide ((((c + f i + g i) % 18446744073709551616 : Nat) : Int) < (c : Int)) = true := decide_eq_true (by omega)
      rw [d2, show (c + f i + g i) / 18446744073709551616 = 1 by omega]
      rfl
  · have d1 : decide ((((f i + g i) % 18446744073709551616 : Nat) : Int) < (g i : Int)) = true := decide_eq_true (by omega)
    rw [d1, show (c + f i + g i) / 18446744073709551616 = 1 by omega]
    rfl
theorem f73.step (K A B i : Nat) (hi : i < 4) (rec : _ → _) (z : List Int) :
    f73.s0 K rec (carry 64 A B 0 i, i, vec 4 (mixed 64 A B 0 i), num B, z) = rec (carry 64 A B 0 (i + 1), ((i + 1 : Nat) : Int), vec 4 (mixed 64 A B 0 (i + 1)), num B, z) := by
  obtain ⟨c1, c2⟩ := carry_succ 64 A B 0 i
  have h := f73.round K i hi rec (mixed 64 A B 0 i) (fun j => B / 2 ^ (64 * j) % 2 ^ 64) (carry 64 A B 0 i) (by rw [mixed_self]; exact Nat.mod_lt _ (by decide)) (Nat.mod_lt _ (by decide)) (carry_le (by decide)) z
  rw [mixed_self] at h
  rw [show (18446744073709551616 : Nat) = 2 ^ 64 from rfl, c1, c2, mixed_step] at h
  exact h
theorem f73.spec (K A B : Nat) (hK : 4 < K) : f73.F K (num A, num B) = some (num (A + B), (carry 64 A B 0 4 : Int)) := by
  have key := iter_for (stp := f73.s0 K) (N := 4) (fun i => ((carry 64 A B 0 i : Int), (i : Int), vec 4 (mixed 64 A B 0 i), num B, ([0, 0, 0, 0] : List Int)))
      (y := some ((carry 64 A B 0 4 : Int), num (A + B), ([0, 0, 0, 0] : List Int))) (fun i hi rec => f73.step K A B i hi rec _) (fun rec => by
        simp only [f73.s0, f73.s0t, mixed_all]
        rfl) hK
  simp only [carry_zero, mixed_zero] at key
  have key' : iter (f73.s0 K) K (0, 0, num A, num B, [0, 0, 0, 0]) = some ((carry 64 A B 0 4 : Int), num (A + B), ([0, 0, 0, 0] : List Int)) := key
  simp only [f73.F, f73.T, key', bind_s]
theorem f73.all (A B : Nat) : f73.F 100000 (num A, num B) = some (num (A + B), (((A % 2 ^ 256 + B % 2 ^ 256) / 2 ^ 256 : Nat) : Int)) := by
  rw [f73.spec 100000 A B (by decide)]
  simp only [carry, Nat.add_zero]
end Go.Proofs

namespace Go.Proofs
open Go.VM
theorem sub_word (x y : Nat) (hx : x < 18446744073709551616) (hy : y < 18446744073709551616) : IntKind.wrap .u64 ((x : Int) - (y : Int)) = (((x + 18446744073709551616 - y) % 18446744073709551616 : Nat) : Int) := by
  simp only [IntKind.wrap, IntKind.bits, IntKind.signed, Bool.false_and, Bool.false_eq_true, if_false]
  omega
theorem sub_words (a b c : Nat) (ha : a < 18446744073709551616) (hb : b < 18446744073709551616) (hc : c ≤ 1) : ((a + 18446744073709551616 - b) % 18446744073709551616 + 18446744073709551616 - (1 - c)) % 18446744073709551616 = (c + a + (18446744073709551615 - b)) % 18446744073709551616 := by omega
theorem sub_cases (a b c : Nat) (ha : a < 18446744073709551616) (hb : b < 18446744073709551616) (hc : c ≤ 1) : ∃ s q : Nat, (a + 18446744073709551616 - b) % 18446744073709551616 = s ∧ (c + a + (18446744073709551615 - b)) / 18446744073709551616 = q ∧
    ((a < b ∧ q = 0) ∨ (¬ a < b ∧ s < 1 - c ∧ q = 0) ∨ (¬ a < b ∧ ¬ s < 1 - c ∧ q = 1)) := by
  refine ⟨_, _, rfl, rfl, ?_⟩
  omega
theorem f72.round (K i : Nat) (hi : i < 4) (rec : _ → _) (f g : Nat → Nat) (c : Nat) (hf : f i < 18446744073709551616) (hg : g i < 18446744073709551616) (hc : c ≤ 1) (z : List Int) :
    f72.s0 K rec (((1 - c : Nat) : Int), i, vec 4 f, vec 4 g, z) = rec (((1 - (c + f i + (18446744073709551615 - g i)) / 18446744073709551616 : Nat) : Int), ((i + 1 : Nat) : Int), vec 4 (fun j => if j = i then (c + f i + (18446744073709551615 - g i)) % 18446744073709551616 else f j), vec 4 g, z) := by
  simp only [f72.s0, f72.s0t]
  have h1 : decide ((i : Int) < 4) = true := decide_eq_true (by omega)
  have h2 : decide ((0 : Int) ≤ (i : Int) ∧ (i : Int) < 4) = true := inR_nat (n := 4) hi
  have w1 : IntKind.wrap .i64 ((i : Int) + 1) = ((i + 1 : Nat) : Int) := by rw [wrap_i _ (by omega) (by omega)]; omega
  rw [h1, h2, w1]
  simp only [cond_true, Int.toNat_natCast, getD_vec hi]
  have e1 := sub_word (f i) (g i) hf hg
  have e2 := sub_word ((f i + 18446744073709551616 - g i) % 18446744073709551616) (1 - c) (Nat.mod_lt _ (by decide)) (by omega)
  have e3 := sub_words (f i) (g i) c hf hg hc
  rw [e3] at e2
  rw [e1, e2, setD_vec hi]
  obtain ⟨s, q, hs, hq, hcase⟩ := sub_cases (f i) (g i) c hf hg hc
  rw [hs, hq]
  generalize (c + f i + (18446744073709551615 - g i)) % 18446744073709551616 = r
  rcases hcase with ⟨h, rfl⟩ | ⟨h, h', rfl⟩ | ⟨h, h', rfl⟩
  · rw [decide_eq_true (show (f i : Int) < (g i : Int) by omega)]
    rfl
  · rw [decide_eq_false (show ¬ (f i : Int) < (g i : Int) by omega), decide_eq_true (show (s : Int) < ((1 - c : Nat) : Int) by omega)]
    rfl
  · rw [decide_eq_false (show ¬ (f i : Int) < (g i : Int) by omega), decide_eq_false (show ¬ (s : Int) < ((1 - c : Nat) : Int) by omega)]
    rfl
theorem f72.step (K A B i : Nat) (hB : B < 2 ^ 256) (hi : i < 4) (rec : _ → _) (z : List Int) :
    f72.s0 K rec (((1 - carry 64 A (2 ^ 256 - 1 - B) 1 i : Nat) : Int), i, vec 4 (mixed 64 A (2 ^ 256 - 1 - B) 1 i), num B, z) = rec (((1 - carry 64 A (2 ^ 256 - 1 - B) 1 (i + 1) : Nat) : Int), ((i + 1 : Nat) : Int), vec 4 (mixed 64 A (2 ^ 256 - 1 - B) 1 (i + 1)), num B, z) := by
  obtain ⟨c1, c2⟩ := carry_succ 64 A (2 ^ 256 - 1 - B) 1 i
  have h := f72.round K i hi rec (mixed 64 A (2 ^ 256 - 1 - B) 1 i) (fun j => B / 2 ^ (64 * j) % 2 ^ 64) (carry 64 A (2 ^ 256 - 1 - B) 1 i) (by rw [mixed_self]; exact Nat.mod_lt _ (by decide)) (Nat.mod_lt _ (by decide)) (carry_le (by decide)) z
  rw [mixed_self] at h
  have hw := comp_word (w := 64) (n := 4) (B := B) (j := i) hB hi
  rw [show (64 * 4 : Nat) = 256 from rfl] at hw
  rw [show (18446744073709551615 : Nat) = 2 ^ 64 - 1 from rfl, ← hw, show (18446744073709551616 : Nat) = 2 ^ 64 from rfl, c1, c2, mixed_step] at h
  exact h
theorem f72.spec (K A B : Nat) (hA : A < 2 ^ 256) (hB : B < 2 ^ 256) (hK : 4 < K) : f72.F K (num A, num B) = some (num (A + 2 ^ 256 - B), ((if A < B then 1 else 0 : Nat) : Int)) := by
  have key := iter_for (stp := f72.s0 K) (N := 4) (fun i => (((1 - carry 64 A (2 ^ 256 - 1 - B) 1 i : Nat) : Int), (i : Int), vec 4 (mixed 64 A (2 ^ 256 - 1 - B) 1 i), num B, ([0, 0, 0, 0] : List Int)))
      (y := some (((1 - carry 64 A (2 ^ 256 - 1 - B) 1 4 : Nat) : Int), num (A + (2 ^ 256 - 1 - B) + 1), ([0, 0, 0, 0] : List Int))) (fun i hi rec => f72.step K A B i hB hi rec _) (fun rec => by
        simp only [f72.s0, f72.s0t, mixed_all]
        rfl) hK
  simp only [carry_zero, mixed_zero] at key
  have key' : iter (f72.s0 K) K (0, 0, num A, num B, [0, 0, 0, 0]) = some (((1 - carry 64 A (2 ^ 256 - 1 - B) 1 4 : Nat) : Int), num (A + (2 ^ 256 - 1 - B) + 1), ([0, 0, 0, 0] : List Int)) := key
  simp only [f72.F, f72.T, key', bind_s]
  have hc : 1 - carry 64 A (2 ^ 256 - 1 - B) 1 4 = if A < B then 1 else 0 := by
    unfold carry
    rw [show (64 * 4 : Nat) = 256 from rfl, Nat.mod_eq_of_lt hA, Nat.mod_eq_of_lt (show 2 ^ 256 - 1 - B < 2 ^ 256 by omega)]
    split <;> omega
  rw [hc, show A + (2 ^ 256 - 1 - B) + 1 = A + 2 ^ 256 - B by omega]
end Go.Proofs

namespace Go.Proofs
open Go.VM
end Go.Proofs

namespace Go.Proofs
open Go.VM
end Go.Proofs

namespace Go.Proofs
open Go.VM
abbrev f71.Ty0 := Int × Int × List Int × List Int
abbrev f71.Ty1 := List Int × List Int
noncomputable def f71.c : Code := bodyOf Try.f71
def f71.s0t (_K : Nat) (rec : f71.Ty0 → Option (Int)) (t5 : Int) (t6 : Int) (b0 : List Int) (b1 : List Int) : Option (Int) :=
  bif (decide (t6 < 4)) then
    bif decide (0 ≤ t6 ∧ t6 < 4) then
      bif decide (0 ≤ t6 ∧ t6 < 4) then
        bif (decide ((List.getD b0 (Int.toNat t6) 0) < (List.getD b1 (Int.toNat t6) 0))) then
          bif decide (0 ≤ t6 ∧ t6 < 4) then
            bif decide (0 ≤ t6 ∧ t6 < 4) then
              bif (decide ((List.getD b0 (Int.toNat t6) 0) > (List.getD b1 (Int.toNat t6) 0))) then
                rec (1, (IntKind.wrap .i64 (t6 + 1)), b0, b1)
              else
                rec ((-1), (IntKind.wrap .i64 (t6 + 1)), b0, b1)
            else
              none
          else
            none
        else
          bif decide (0 ≤ t6 ∧ t6 < 4) then
            bif decide (0 ≤ t6 ∧ t6 < 4) then
              bif (decide ((List.getD b0 (Int.toNat t6) 0) > (List.getD b1 (Int.toNat t6) 0))) then
                rec (1, (IntKind.wrap .i64 (t6 + 1)), b0, b1)
              else
                rec (t5, (IntKind.wrap .i64 (t6 + 1)), b0, b1)
            else
              none
          else
            none
      else
        none
    else
      none
  else
    some t5
def f71.s0 (K : Nat) (rec : f71.Ty0 → Option (Int)) (x : f71.Ty0) : Option (Int) := f71.s0t K rec x.1 x.2.1 x.2.2.1 x.2.2.2
noncomputable def f71.s0.b : Code := (findLoop 0 f71.c).getD .skip
def f71.s0.h : Hint := { lv := [2, 3, 5, 6] }
def f71.s0.ho : Hint := { lv := [5] }
def f71.s0.shp (x : f71.Ty0) : VS := ⟨[(2, .ptr 0 0), (3, .ptr 1 0), (5, .int .i64 x.1), (6, .int .i64 x.2.1)], [(0, ([.ints .u64 4 x.2.2.1], 39, .norm)), (1, ([.ints .u64 4 x.2.2.2], 39, .norm))], 2⟩
def f71.s0.inX : VS → Option (f71.Ty0)
  | ⟨[(2, .ptr 0 0), (3, .ptr 1 0), (5, .int .i64 t5), (6, .int .i64 t6)], [(0, ([.ints .u64 4 b0], 39, .norm)), (1, ([.ints .u64 4 b1], 39, .norm))], 2⟩ => some (t5, t6, b0, b1)
  | _ => none
def f71.s0.o0 (y : Int) : VS := ⟨[(5, .int .i64 y)], [], 0⟩
def f71.s0.des : ∀ α : Type, Int → (Ex → VS → Option α) → Option α := (des1 (.exit 0) f71.s0.o0)
def f71.s0.out : Int → Ex × VS := (fun y => (.exit 0, f71.s0.o0 y))
theorem f71.s0.desOK : ∀ α y (k : Ex → VS → Option α), f71.s0.des α y k = k (f71.s0.out y).1 (f71.s0.out y).2 := (fun _ _ _ => rfl)
def f71.s0.inY : Ex → VS → Option (Int)
  | .exit 0, ⟨[(5, .int .i64 t5)], [], 0⟩ => some t5
  | _, _ => none
def f71.lp (K : Nat) : Nat → Option (Hint × Summ) := tabLp [(0, f71.s0.h, summOf (iter (f71.s0 K) K) f71.s0.inX f71.s0.des)]
noncomputable def f71.tab (_K : Nat) : List (Nat × Entry) := []
theorem f71.tabOK (K : Nat) : SpecOK Try.prog (tabSp (f71.tab K)) := tab_ok ( tab_nil)
theorem f71.s0.eq (K : Nat) (rec : f71.Ty0 → Option (Int)) (x : f71.Ty0) : f71.s0 K rec x = roundL (getA tys) (tabSp (f71.tab K)) 26 0 (f71.lp K) 400 f71.s0.b f71.s0.h f71.s0.ho f71.s0.shp f71.s0.inX f71.s0.inY rec x := by kernel_rfl
theorem f71.s0.lok (K : Nat) : LoopsOK Try.prog 26 0 (f71.lp K) f71.s0.b := loops_ok (by
  have h : loopsIn (f71.lp K) f71.s0.b = [] := by kernel_rfl
  rw [h]; simp)
theorem f71.s0.ok (K : Nat) : SummOK Try.prog 26 0 (summOf (iter (f71.s0 K) K) f71.s0.inX f71.s0.des) f71.s0.b :=
  loop_ok mix tys_ok (f71.tabOK K) (h := f71.s0.h) (ho := f71.s0.ho) (shp := f71.s0.shp) (inX := f71.s0.inX) (des := f71.s0.des) (out := f71.s0.out) (inY := f71.s0.inY) (fuel := 400)
    (by intro st x h; unfold f71.s0.inX at h; split at h <;> simp at h; subst h; rfl)
    (by intro e st y h; unfold f71.s0.inY at h; split at h <;> simp at h <;> subst h <;> rfl)
    f71.s0.desOK (f71.s0.lok K) (f71.s0 K) (f71.s0.eq K) K
theorem f71.loops (K : Nat) : LoopsOK Try.prog 26 0 (f71.lp K) f71.c := loops_ok (by
  have h : loopsIn (f71.lp K) f71.c = [(0, f71.s0.b)] := by kernel_rfl
  rw [h]
  intro p hp
  simp only [List.mem_cons, List.not_mem_nil, or_false] at hp
  rcases hp with rfl
  · exact ⟨_, rfl, (f71.s0.ok K)⟩)
def f71.T (K : Nat) (a0 : List Int) (a1 : List Int) : Option (Int) :=
  (iter (f71.s0 K) K (0, 0, a0, a1)).bind fun y21 =>
  some y21
def f71.F (K : Nat) (x : f71.Ty1) : Option (Int) := f71.T K x.1 x.2
def f71.av (x : f71.Ty1) : List VV := [.agg [.ints .u64 4 x.1], .agg [.ints .u64 4 x.2]]
def f71.bl (_x : f71.Ty1) : List (Nat × Blk) := []
def f71.inA : VS → Option (f71.Ty1)
  | ⟨[(0, .agg [.ints .u64 4 a0]), (1, .agg [.ints .u64 4 a1])], [], 0⟩ => some (a0, a1)
  | _ => none
def f71.o0 (y : Int) : VS := ⟨[(0, .int .i64 y)], [], 0⟩
def f71.des : ∀ α : Type, Int → (VS → Option α) → Option α := (dv1 f71.o0)
def f71.out : Int → VS := f71.o0
def f71.inR : VS → Option (Int)
  | ⟨[(0, .int .i64 y)], [], 0⟩ => some y
  | _ => none
noncomputable def f71.E (K : Nat) : Entry := genE 0 f71.inA (f71.F K) f71.des
theorem f71.eq (K : Nat) (x : f71.Ty1) : f71.F K x = xrun (getA tys) (tabSp (f71.tab K)) Try.f71.ntmps 0 (f71.lp K) 400 f71.c ⟨initL 0 (f71.av x), f71.bl x, 0⟩ (contF (getA tys) 0 Try.f71.results.toList f71.inR) := by kernel_rfl
theorem f71.ok (K : Nat) : EntryOK Try.prog 71 (f71.E K) :=
  gen_ok mix tys_ok (f71.tabOK K) Try.func71 (by kernel_rfl : Try.f71.body = some f71.c) (by kernel_rfl) (f71.loops K) (av := f71.av) (bl := f71.bl) (out := f71.out) (fuel := 400)
    (by intro s x h; unfold f71.inA at h; split at h <;> simp at h; subst h; rfl) (fun _ => Nat.le_of_ble_eq_true rfl)
    (by intro s y h; unfold f71.inR at h; split at h <;> simp at h <;> subst h <;> rfl) (fun _ _ _ => rfl) (f71.eq K)
end Go.Proofs

namespace Go.Proofs
open Go.VM
theorem cmp_word (A B p q : Nat) (hp : 0 < p) : cmp (A % (p * q)) (B % (p * q)) = if A / p % q < B / p % q then -1 else if B / p % q < A / p % q then 1 else cmp (A % p) (B % p) := by
  rw [Nat.mod_mul, Nat.mod_mul]
  have h1 := Nat.mod_lt A hp
  have h2 := Nat.mod_lt B hp
  generalize A % p = x at *
  generalize B % p = y at *
  generalize A / p % q = a
  generalize B / p % q = b
  unfold cmp
  rcases Nat.lt_trichotomy a b with h | h | h
  · have h3 : p * (a + 1) ≤ p * b := Nat.mul_le_mul_left _ h
    rw [Nat.mul_add, Nat.mul_one] at h3
    rw [if_pos h, if_neg (by omega), if_pos (by omega)]
  · subst h
    rw [if_neg (Nat.lt_irrefl a), if_neg (Nat.lt_irrefl a)]
    by_cases e : x = y
    · rw [if_pos (by omega), if_pos e]
    · rw [if_neg (by omega), if_neg e]
      by_cases l : x < y
      · rw [if_pos (by omega), if_pos l]
      · rw [if_neg (by omega), if_neg l]
  · have h3 : p * (b + 1) ≤ p * a := Nat.mul_le_mul_left _ h
    rw [Nat.mul_add, Nat.mul_one] at h3
    rw [if_neg (by omega), if_pos h, if_neg (by omega), if_neg (by omega)]
theorem f71.round (K A B i : Nat) (hi : i < 4) (rec : _ → _) : f71.s0 K rec (cmp (A % 2 ^ (64 * i)) (B % 2 ^ (64 * i)), i, num A, num B) = rec (cmp (A % 2 ^ (64 * (i + 1))) (B % 2 ^ (64 * (i + 1))), ((i + 1 : Nat) : Int), num A, num B) := by
  simp only [f71.s0, f71.s0t]
  have h1 : decide ((i : Int) < 4) = true := decide_eq_true (by omega)
  have h2 : decide ((0 : Int) ≤ (i : Int) ∧ (i : Int) < 4) = true := inR_nat (n := 4) hi
  have w1 : IntKind.wrap .i64 ((i : Int) + 1) = ((i + 1 : Nat) : Int) := by rw [wrap_i _ (by omega) (by omega)]; omega
  rw [h1, h2, w1]
  simp only [cond_true, Int.toNat_natCast, getD_words hi]
  rw [show 64 * (i + 1) = 64 * i + 64 from Nat.mul_succ _ _, Nat.pow_add, cmp_word A B _ _ (Nat.two_pow_pos _)]
  generalize cmp (A % 2 ^ (64 * i)) (B % 2 ^ (64 * i)) = z
  generalize A / 2 ^ (64 * i) % 2 ^ 64 = a
  generalize B / 2 ^ (64 * i) % 2 ^ 64 = b
  rcases Nat.lt_trichotomy a b with h | h | h
  · rw [decide_eq_true (show (a : Int) < (b : Int) by omega), decide_eq_false (show ¬ (a : Int) > (b : Int) by omega), if_pos h]
    rfl
  · subst h
    rw [decide_eq_false (show ¬ (a : Int) < (a : Int) by omega), if_neg (Nat.lt_irrefl a), if_neg (Nat.lt_irrefl a)]
    rfl
  · rw [decide_eq_false (show ¬ (a : Int) < (b : Int) by omega), decide_eq_true (show (a : Int) > (b : Int) by omega), if_neg (by omega), if_pos h]
    rfl
theorem f71.spec (K A B : Nat) (hA : A < 2 ^ 256) (hB : B < 2 ^ 256) (hK : 4 < K) : f71.F K (num A, num B) = some (cmp A B) := by
  have key := iter_for (stp := f71.s0 K) (N := 4) (fun i => (cmp (A % 2 ^ (64 * i)) (B % 2 ^ (64 * i)), (i : Int), num A, num B)) (y := some (cmp A B)) (fun i hi rec => f71.round K A B i hi rec) (fun rec => by
      simp only [f71.s0, f71.s0t]
      rw [show (64 * 4 : Nat) = 256 from rfl, mod_self_of hA, mod_self_of hB]
      rfl) hK
  have e0 : cmp (A % 2 ^ (64 * 0)) (B % 2 ^ (64 * 0)) = 0 := by simp [Nat.mod_one, cmp]
  rw [e0] at key
  have key' : iter (f71.s0 K) K (0, 0, num A, num B) = some (cmp A B) := key
  simp only [f71.F, f71.T, key', bind_s]
end Go.Proofs

namespace Go.Proofs
open Go.VM
end Go.Proofs

namespace Go.Proofs
open Go.VM
end Go.Proofs

namespace Go.Proofs
open Go.VM
abbrev f95.Ty0 := Nat × Nat × List Int × Nat × List Int × Nat × List Int
abbrev f95.Ty1 := Nat × Nat × Nat × List Int × Nat × List Int
def f95.T (_K : Nat) (a0 : Nat) (a1 : Nat) (m0_0 : Nat) (m0_1 : List Int) (m2_0 : Nat) (m2_1 : List Int) : Option (f95.Ty0) :=
  bif (Nat.ble (0 + a0) m0_0 && (fitB (a0 * 1))) then
    bif ((Nat.ble (0 + a1) m2_0 && (Nat.ble a0 a0)) && (fitB ((a0 + a1) * 1))) then
      some ((a0 + a1), m0_0, m0_1, m2_0, m2_1, (a0 + a1), ((padT (subI m0_1 0 a0) a0) ++ (padT (subI m2_1 0 a1) a1)))
    else
      none
  else
    none
def f95.F (K : Nat) (x : f95.Ty1) : Option (f95.Ty0) := f95.T K x.1 x.2.1 x.2.2.1 x.2.2.2.1 x.2.2.2.2.1 x.2.2.2.2.2
def f95.av (x : f95.Ty1) : List VV := [.vw true 0 0 x.1 1, .vw true 2 0 x.2.1 3]
def f95.bl (x : f95.Ty1) : List (Nat × Blk) := [(0, ([.ints .u8 x.2.2.1 x.2.2.2.1], 0, .ro)), (2, ([.ints .u8 x.2.2.2.2.1 x.2.2.2.2.2], 0, .ro))]
def f95.inA : VS → Option (f95.Ty1)
  | ⟨[(0, .vw true 0 0 a0 1), (1, .vw true 2 0 a1 3)], [(0, ([.ints .u8 m0_0 m0_1], 0, .ro)), (2, ([.ints .u8 m2_0 m2_1], 0, .ro))], 4⟩ => some (a0, a1, m0_0, m0_1, m2_0, m2_1)
  | _ => none
def f95.o0 (y : f95.Ty0) : VS := ⟨[(0, .vec 4 0 y.1 5)], [(0, ([.ints .u8 y.2.1 y.2.2.1], 0, .ro)), (2, ([.ints .u8 y.2.2.2.1 y.2.2.2.2.1], 0, .ro)), (4, ([.ints .u8 y.2.2.2.2.2.1 y.2.2.2.2.2.2], 5, .vec 5))], 6⟩
def f95.inR : VS → Option (f95.Ty0)
  | ⟨[(0, .vec 4 0 y 5)], [(0, ([.ints .u8 z0_0 z0_1], 0, .ro)), (2, ([.ints .u8 z2_0 z2_1], 0, .ro)), (4, ([.ints .u8 z4_0 z4_1], 5, .vec 5))], 6⟩ => some (y, z0_0, z0_1, z2_0, z2_1, z4_0, z4_1)
  | _ => none
noncomputable def f95.E (K : Nat) : Entry := genE 4 f95.inA (f95.F K) (dv1 f95.o0)
theorem f95.ok (K : Nat) : EntryOK Try.prog 95 (f95.E K) := gen_ok mix tys_ok (tab_ok ( tab_nil)) Try.func95 (c := bodyOf Try.f95) (by kernel_rfl) (by kernel_rfl) (loops_none (lp := lpNone) (by kernel_rfl)) (av := f95.av) (bl := f95.bl) (inR := f95.inR) (out := f95.o0) (fuel := 400)
  (by intro s x h; unfold f95.inA at h; split at h <;> simp at h; subst h; rfl) (fun _ => Nat.le_of_ble_eq_true rfl)
  (by intro s y h; unfold f95.inR at h; split at h <;> simp at h <;> subst h <;> rfl) (fun _ _ _ => rfl) (fun _ => by kernel_rfl)
end Go.Proofs

namespace Go.Proofs
open Go.VM
abbrev f96.Ty0 := Nat × Nat × List Int
noncomputable def f96.c : Code := bodyOf Try.f96
def f96.T (_K : Nat) (rec : Int × Int → Option (Unit ⊕ (f96.Ty0))) (a0 : Int) (a1 : Int) : Option (Unit ⊕ (f96.Ty0)) :=
  bif (decide (a1 < 1)) then
    some (.inl ())
  else
    (rec ((IntKind.wrap .u64 (Int.tdiv a0 256)), (IntKind.wrap .i64 (a1 - 1)))).bind fun y4 =>
    alt (fun y5 =>
      some (.inr (1, 1, [(IntKind.wrap .u8 (Int.tmod a0 256))]))) (fun y6 =>
      bif (Nat.ble y6.1 y6.2.1 && (fitB ((y6.1 + 1) * 1))) then
        some (.inr ((y6.1 + 1), (y6.1 + 1), ((padT y6.2.2 y6.1) ++ [(IntKind.wrap .u8 (Int.tmod a0 256))])))
      else
        none) y4
def f96.R (K : Nat) (rec : Int × Int → Option (Unit ⊕ (f96.Ty0))) (x : Int × Int) : Option (Unit ⊕ (f96.Ty0)) := f96.T K rec x.1 x.2
def f96.F : Nat → (Int × Int) → Option (Unit ⊕ (f96.Ty0)) := recF f96.R
def f96.av (x : Int × Int) : List VV := [.int .u64 x.1, .int .i64 x.2]
def f96.bl (_x : Int × Int) : List (Nat × Blk) := []
def f96.inA : VS → Option (Int × Int)
  | ⟨[(0, .int .u64 a0), (1, .int .i64 a1)], [], 0⟩ => some (a0, a1)
  | _ => none
def f96.o0 (_y : Unit) : VS := ⟨[(0, .raw (.slice none 0 0))], [], 0⟩
def f96.o1 (y : f96.Ty0) : VS := ⟨[(0, .vec 0 0 y.1 1)], [(0, ([.ints .u8 y.2.1 y.2.2], 5, .vec 1))], 2⟩
def f96.des : ∀ α : Type, (Unit ⊕ (f96.Ty0)) → (VS → Option α) → Option α := (dvA (dv1 f96.o0) (dv1 f96.o1))
def f96.out : Unit ⊕ (f96.Ty0) → VS := (alt f96.o0 f96.o1)
def f96.inR : VS → Option (Unit ⊕ (f96.Ty0))
  | ⟨[(0, .raw (.slice none 0 0))], [], 0⟩ => some (.inl ())
  | ⟨[(0, .vec 0 0 y 1)], [(0, ([.ints .u8 z0_0 z0_1], 5, .vec 1))], 2⟩ => some (.inr (y, z0_0, z0_1))
  | _ => none
noncomputable def f96.E (K : Nat) : Entry := genE 0 f96.inA (f96.F K) f96.des
noncomputable def f96.tab (K : Nat) : List (Nat × Entry) := [(96, (f96.E K))]
theorem f96.tabOK (K : Nat) (h : EntryOK Try.prog 96 (f96.E K)) : SpecOK Try.prog (tabSp (f96.tab K)) := tab_ok ((tab_cons h tab_nil))
theorem f96.loops (K : Nat) : LoopsOK Try.prog 17 0 lpNone f96.c := loops_ok (by
  have h : loopsIn lpNone f96.c = [] := by kernel_rfl
  rw [h]; simp)
theorem f96.eq (K : Nat) (x : Int × Int) : f96.F (K + 1) x = xrun (getA tys) (tabSp (f96.tab K)) Try.f96.ntmps 0 lpNone 400 f96.c ⟨initL 0 (f96.av x), f96.bl x, 0⟩ (contF (getA tys) 0 Try.f96.results.toList f96.inR) := by kernel_rfl
theorem f96.ok : ∀ K : Nat, EntryOK Try.prog 96 (f96.E K)
  | 0 => gen_none (fun _ => rfl)
  | K + 1 =>
  gen_ok mix tys_ok (f96.tabOK K (f96.ok K)) Try.func96 (by kernel_rfl : Try.f96.body = some f96.c) (by kernel_rfl) (f96.loops K) (av := f96.av) (bl := f96.bl) (out := f96.out) (fuel := 400)
    (by intro s x h; unfold f96.inA at h; split at h <;> simp at h; subst h; rfl) (fun _ => Nat.le_of_ble_eq_true rfl)
    (by intro s y h; unfold f96.inR at h; split at h <;> simp at h <;> subst h <;> rfl) (dvA_ok (fun _ _ _ => rfl) (fun _ _ _ => rfl)) (f96.eq K)
end Go.Proofs

namespace Go.Proofs
open Go.VM
abbrev f84.Ty0 := Nat × Nat × List Int
abbrev f84.Ty1 := Int × Nat × List Int
noncomputable def f84.c : Code := bodyOf Try.f84
def f84.T (_K : Nat) (rec : f84.Ty0 → Option (f84.Ty1)) (a0 : Nat) (m0_0 : Nat) (m0_1 : List Int) : Option (f84.Ty1) :=
  bif (((a0 : Nat) : Int) == 0) then
    some (0, m0_0, m0_1)
  else
    let v3 := IntKind.wrap .i64 (((a0 : Nat) : Int) - 1)
    bif (decide (0 ≤ v3 ∧ v3 ≤ ((a0 : Nat) : Int)) && true) then
      let v4 := Int.toNat v3
      bif ((Nat.ble (0 + v4) m0_0 && true) && true) then
        (rec (v4, v4, (subI m0_1 0 v4))).bind fun y5 =>
        bif decide (0 ≤ v3 ∧ v3 < ((a0 : Nat) : Int)) then
          let v7 := 0 + (Int.toNat v3)
          bif Nat.blt v7 m0_0 then
            some ((IntKind.wrap .u64 ((IntKind.wrap .u64 (256 * y5.1)) + (IntKind.wrap .u64 (List.getD m0_1 v7 0)))), m0_0, m0_1)
          else
            none
        else
          none
      else
        none
    else
      none
def f84.R (K : Nat) (rec : f84.Ty0 → Option (f84.Ty1)) (x : f84.Ty0) : Option (f84.Ty1) := f84.T K rec x.1 x.2.1 x.2.2
def f84.F : Nat → (f84.Ty0) → Option (f84.Ty1) := recF f84.R
def f84.av (x : f84.Ty0) : List VV := [.vw true 0 0 x.1 1]
def f84.bl (x : f84.Ty0) : List (Nat × Blk) := [(0, ([.ints .u8 x.2.1 x.2.2], 0, .ro))]
def f84.inA : VS → Option (f84.Ty0)
  | ⟨[(0, .vw true 0 0 a0 1)], [(0, ([.ints .u8 m0_0 m0_1], 0, .ro))], 2⟩ => some (a0, m0_0, m0_1)
  | _ => none
def f84.o0 (y : f84.Ty1) : VS := ⟨[(0, .int .u64 y.1)], [(0, ([.ints .u8 y.2.1 y.2.2], 0, .ro))], 2⟩
def f84.des : ∀ α : Type, (f84.Ty1) → (VS → Option α) → Option α := (dv1 f84.o0)
def f84.out : f84.Ty1 → VS := f84.o0
def f84.inR : VS → Option (f84.Ty1)
  | ⟨[(0, .int .u64 y)], [(0, ([.ints .u8 z0_0 z0_1], 0, .ro))], 2⟩ => some (y, z0_0, z0_1)
  | _ => none
noncomputable def f84.E (K : Nat) : Entry := genE 2 f84.inA (f84.F K) f84.des
noncomputable def f84.tab (K : Nat) : List (Nat × Entry) := [(84, (viewE [(0, .u8)] (f84.E K)))]
theorem f84.tabOK (K : Nat) (h : EntryOK Try.prog 84 (f84.E K)) : SpecOK Try.prog (tabSp (f84.tab K)) := tab_ok ((tab_cons (view_ok h) tab_nil))
theorem f84.loops (K : Nat) : LoopsOK Try.prog 21 2 lpNone f84.c := loops_ok (by
  have h : loopsIn lpNone f84.c = [] := by kernel_rfl
  rw [h]; simp)
theorem f84.eq (K : Nat) (x : f84.Ty0) : f84.F (K + 1) x = xrun (getA tys) (tabSp (f84.tab K)) Try.f84.ntmps 2 lpNone 400 f84.c ⟨initL 0 (f84.av x), f84.bl x, 2⟩ (contF (getA tys) 2 Try.f84.results.toList f84.inR) := by kernel_rfl
theorem f84.ok : ∀ K : Nat, EntryOK Try.prog 84 (f84.E K)
  | 0 => gen_none (fun _ => rfl)
  | K + 1 =>
  gen_ok mix tys_ok (f84.tabOK K (f84.ok K)) Try.func84 (by kernel_rfl : Try.f84.body = some f84.c) (by kernel_rfl) (f84.loops K) (av := f84.av) (bl := f84.bl) (out := f84.out) (fuel := 400)
    (by intro s x h; unfold f84.inA at h; split at h <;> simp at h; subst h; rfl) (fun _ => Nat.le_of_ble_eq_true rfl)
    (by intro s y h; unfold f84.inR at h; split at h <;> simp at h <;> subst h <;> rfl) (fun _ _ _ => rfl) (f84.eq K)
end Go.Proofs

namespace Go.Proofs
open Go.VM
def be : Nat → Nat → List Int
  | 0, _ => []
  | n + 1, x => be n (x / 256) ++ [((x % 256 : Nat) : Int)]
theorem be_length : ∀ n x : Nat, (be n x).length = n
  | 0, _ => rfl
  | n + 1, x => by rw [be, List.length_append, be_length n]; rfl
def octets (l : List Int) : Prop := ∀ x ∈ l, 0 ≤ x ∧ x < 256
theorem be_octets : ∀ n x : Nat, octets (be n x)
  | 0, _ => fun _ h => by cases h
  | n + 1, x => fun y h => by
    rw [be, List.mem_append] at h
    rcases h with h | h
    · exact be_octets n _ y h
    · simp only [List.mem_singleton] at h
      subst h
      omega
def tv (l : List Int) : Nat := l.foldl (fun a x => 256 * a + x.toNat) 0
theorem tv_snoc (l : List Int) (x : Int) : tv (l ++ [x]) = 256 * tv l + x.toNat := by simp [tv]
theorem tv_lt : ∀ (n : Nat) (l : List Int), l.length = n → octets l → tv l < 256 ^ n
  | 0, l, h, _ => by
    have : l = [] := List.length_eq_zero_iff.1 h
    subst this; simp [tv]
  | n + 1, l, h, ho => by
    have hne : l ≠ [] := by intro e; subst e; cases h
    rw [← List.dropLast_concat_getLast hne, tv_snoc]
    have h1 := tv_lt n l.dropLast (by simp [h]) (fun x hx => ho x (List.dropLast_subset l hx))
    have h2 := ho _ (List.getLast_mem hne)
    rw [Nat.pow_succ]
    omega
theorem padT_self (l : List Int) {n : Nat} (h : l.length = n) : padT l n = l := by
  subst h
  refine List.ext_getElem? fun i => ?_
  by_cases hi : i < l.length
  · simp [padT, hi]
  · rw [List.getElem?_eq_none (by simpa [padT] using hi), List.getElem?_eq_none (by omega)]
theorem subI_cut (l : List Int) (off m : Nat) (h : off + m ≤ l.length) : subI l off m = (l.drop off).take m := by
  refine List.ext_getElem? fun i => ?_
  rw [List.getElem?_take, List.getElem?_drop]
  by_cases hi : i < m
  · rw [if_pos hi]
    have : off + i < l.length := by omega
    simp [subI, hi, this]
  · rw [if_neg hi, List.getElem?_eq_none (by simpa [subI] using hi)]
theorem subI_self (l : List Int) {n : Nat} (h : l.length = n) : subI l 0 n = l := by
  rw [subI_cut l 0 n (by omega), List.drop_zero, List.take_of_length_le (by omega)]
theorem wrap_b (z : Int) (h0 : 0 ≤ z) (h : z < 256) : IntKind.wrap .u8 z = z := by
  simp [IntKind.wrap, IntKind.signed, IntKind.bits]; omega
theorem fitB_true {x : Nat} (h : x ≤ 140737488355328) : fitB x = true := by simp only [fitB, Nat.ble_eq]; exact h
theorem ble_true {x y : Nat} (h : x ≤ y) : Nat.ble x y = true := by simp only [Nat.ble_eq]; exact h
theorem altl {A B C : Type} (f : A → C) (g : B → C) (a : A) : alt f g (.inl a) = f a := Eq.trans (show alt f g (.inl a) = f a from by unfold alt; rfl) (Eq.symm (Eq.symm rfl))
theorem altr {A B C : Type} (f : A → C) (g : B → C) (b : B) : alt f g (.inr b) = g b := Eq.trans (show alt f g (.inr b) = g b from by unfold alt; rfl) (Eq.symm (Eq.symm rfl))
theorem f96.spec : ∀ (n K x : Nat), x < 18446744073709551616 → n < K → n < 1000000000 → f96.F K ((x : Int), (n : Int)) = some (if n = 0 then .inl () else .inr (n, n, be n x)) := by
  intro n
  induction n with
  | zero =>
    intro K x _ hK _
    obtain ⟨k, rfl⟩ : ∃ k, K = k + 1 := ⟨K - 1, by omega⟩
    rw [f96.F, recF_succ, ← f96.F]
    simp only [f96.R, f96.T]
    rw [decide_eq_true (show ((0 : Nat) : Int) < 1 by decide), cond_t]
    rfl
  | succ n ih =>
    intro K x hx hK hn
    obtain ⟨k, rfl⟩ : ∃ k, K = k + 1 := ⟨K - 1, by omega⟩
    rw [f96.F, recF_succ, ← f96.F]
    simp only [f96.R, f96.T]
    have e1 : IntKind.wrap .u64 (Int.tdiv (x : Int) 256) = ((x / 256 : Nat) : Int) := by
      rw [show (256 : Int) = ((256 : Nat) : Int) from rfl, tdiv_nat, wrap_u _ (by omega) (by omega)]
    have e2 : IntKind.wrap .i64 (((n + 1 : Nat) : Int) - 1) = (n : Int) := by rw [wrap_i _ (by omega) (by omega)]; omega
    have e3 : IntKind.wrap .u8 (Int.tmod (x : Int) 256) = ((x % 256 : Nat) : Int) := by
      rw [show (256 : Int) = ((256 : Nat) : Int) from rfl, tmod_nat, wrap_b _ (by omega) (by omega)]
    rw [decide_eq_false (show ¬ ((n + 1 : Nat) : Int) < 1 by omega), cond_f, e1, e2, ih k (x / 256) (by omega) (by omega) (by omega), bind_s, e3, if_neg (show ¬ n + 1 = 0 by omega)]
    by_cases h0 : n = 0
    · subst h0
      rw [if_pos rfl, altl]; rfl
    · rw [if_neg h0, altr]
      simp only []
      rw [ble_true (Nat.le_refl n), Bool.true_and, fitB_true (by omega), cond_t, padT_self _ (be_length n _)]
      rfl
theorem f84.spec : ∀ (n K : Nat) (l : List Int), l.length = n → octets l → n < K → n ≤ 8 → f84.F K (n, n, l) = some (((tv l : Nat) : Int), n, l) := by
  intro n
  induction n with
  | zero =>
    intro K l hl _ hK _
    have : l = [] := List.length_eq_zero_iff.1 hl
    subst this
    obtain ⟨k, rfl⟩ : ∃ k, K = k + 1 := ⟨K - 1, by omega⟩
    rw [f84.F, recF_succ, ← f84.F]
    simp only [f84.R, f84.T]
    rw [show (((0 : Nat) : Int) == 0) = true from rfl, cond_t]; rfl
  | succ n ih =>
    intro K l hl ho hK hn
    obtain ⟨k, rfl⟩ : ∃ k, K = k + 1 := ⟨K - 1, by omega⟩
    have hne : l ≠ [] := by intro e; subst e; cases hl
    obtain ⟨l', x, rfl⟩ : ∃ l' x, l = l' ++ [x] := ⟨_, _, (List.dropLast_concat_getLast hne).symm⟩
    have hl' : l'.length = n := by simpa using hl
    have hx := ho x (by simp)
    have ho' : octets l' := fun y hy => ho y (by simp [hy])
    have hlt := tv_lt (n + 1) _ hl ho
    have hp : 256 ^ (n + 1) ≤ 18446744073709551616 := Nat.le_trans (Nat.pow_le_pow_right (by decide) (show n + 1 ≤ 8 by omega)) (by decide)
    rw [tv_snoc] at hlt
    rw [f84.F, recF_succ, ← f84.F]
    simp only [f84.R, f84.T]
    have e2 : IntKind.wrap .i64 (((n + 1 : Nat) : Int) - 1) = (n : Int) := by rw [wrap_i _ (by omega) (by omega)]; omega
    have e3 : subI (l' ++ [x]) 0 n = l' := by
      rw [subI_cut _ 0 n (by simp; omega), List.drop_zero, List.take_append_of_le_length (by omega), List.take_of_length_le (by omega)]
    have e4 : List.getD (l' ++ [x]) n 0 = x := by
      rw [List.getD_eq_getElem?_getD, List.getElem?_append_right (by omega), hl', Nat.sub_self]; rfl
    rw [show (((n + 1 : Nat) : Int) == 0) = false from beq_eq_false_iff_ne.2 (by omega), cond_f, e2,
      decide_eq_true (show (0 : Int) ≤ (n : Int) ∧ (n : Int) ≤ ((n + 1 : Nat) : Int) by omega), Bool.true_and, cond_t, Int.toNat_natCast, Nat.zero_add, ble_true (show n ≤ n + 1 by omega), Bool.true_and, Bool.true_and, cond_t,
      e3, ih k l' hl' ho' (by omega) (by omega), bind_s, decide_eq_true (show (0 : Int) ≤ (n : Int) ∧ (n : Int) < ((n + 1 : Nat) : Int) by omega), cond_t,
      show Nat.blt n (n + 1) = true from by simp [Nat.blt_eq], cond_t, e4, tv_snoc]
    simp only []
    have e5 : (256 : Int) * ((tv l' : Nat) : Int) = ((256 * tv l' : Nat) : Int) := by rw [Int.natCast_mul]; rfl
    have i1 : IntKind.wrap .u64 ((256 * tv l' : Nat) : Int) = ((256 * tv l' : Nat) : Int) := wrap_u _ (by omega) (by omega)
    have i2 : IntKind.wrap .u64 x = x := wrap_u _ (by omega) (by omega)
    rw [e5, i1, i2, wrap_u _ (by omega) (by omega)]
    congr 2
    omega
theorem f95.spec (K a b : Nat) (l m : List Int) (hl : l.length = a) (hm : m.length = b) (hf : a + b ≤ 140737488355328) : f95.F K (a, b, a, l, b, m) = some (a + b, a, l, b, m, a + b, l ++ m) := by
  simp only [f95.F, f95.T, Nat.zero_add]
  rw [ble_true (Nat.le_refl a), Bool.true_and, fitB_true (by omega), cond_t, ble_true (Nat.le_refl b), Bool.true_and, Bool.true_and, fitB_true (by omega), cond_t,
    subI_self l hl, subI_self m hm, padT_self l hl, padT_self m hm]
theorem be_mod : ∀ (n x : Nat), be n (x % 256 ^ n) = be n x
  | 0, _ => rfl
  | n + 1, x => by
    rw [be, be]
    have h1 : x % 256 ^ (n + 1) / 256 = x / 256 % 256 ^ n := by rw [Nat.pow_succ', Nat.mod_mul_right_div_self]
    have h2 : x % 256 ^ (n + 1) % 256 = x % 256 := by rw [Nat.pow_succ', Nat.mod_mul_right_mod]
    rw [h1, h2, be_mod n]
theorem be_add (m : Nat) : ∀ (n x : Nat), be (m + n) x = be m (x / 256 ^ n) ++ be n x
  | 0, x => by rw [Nat.pow_zero, Nat.div_one, Nat.add_zero, be, List.append_nil]
  | n + 1, x => by
    rw [← Nat.add_assoc, be, be_add m n, be, Nat.div_div_eq_div_mul, Nat.pow_succ', List.append_assoc]
theorem tv_append (a b : List Int) : tv (a ++ b) = tv a * 256 ^ b.length + tv b := by
  have key : ∀ (b : List Int) (x : Nat), b.foldl (fun a x => 256 * a + x.toNat) x = x * 256 ^ b.length + b.foldl (fun a x => 256 * a + x.toNat) 0 := by
    intro b
    induction b with
    | nil => intro x; simp
    | cons y b ih =>
      intro x
      rw [List.foldl_cons, ih, List.foldl_cons, ih (256 * 0 + y.toNat), List.length_cons, Nat.pow_succ']
      have : (256 * x + y.toNat) * 256 ^ b.length = x * (256 * 256 ^ b.length) + y.toNat * 256 ^ b.length := by
        rw [Nat.add_mul, Nat.mul_comm 256 x, Nat.mul_assoc]
      rw [this, Nat.mul_zero, Nat.zero_add]; omega
  show (a ++ b).foldl _ 0 = _
  rw [List.foldl_append, key]
  rfl
theorem tv_be : ∀ (n x : Nat), tv (be n x) = x % 256 ^ n
  | 0, x => by rw [Nat.pow_zero, Nat.mod_one]; rfl
  | n + 1, x => by
    rw [be, tv_snoc, tv_be n, Int.toNat_natCast, Nat.pow_succ', Nat.mod_mul]
    omega
theorem octets_append {a b : List Int} (ha : octets a) (hb : octets b) : octets (a ++ b) := fun x hx => (List.mem_append.1 hx).elim (ha x) (hb x)
end Go.Proofs
