/- Plain laws: lemmas that hold with no condition but those that each states. -/
import Derived.Test.YtmbbkmljmienjaaQ2
namespace Go.Proofs
open Go.VM
abbrev f32.Ty0 := Int × Int × List Int × Int × List Int × Int × List Int × List Int
abbrev f32.Ty1 := Int × List Int × Int × List Int × List Int
abbrev f32.Ty2 := List Int × List Int
abbrev f32.Ty3 := List Int × Int
noncomputable def f32.c : Code := bodyOf Try.f32
def f32.s2t (_K : Nat) (rec : f32.Ty0 → Option (f32.Ty1)) (t7 : Int) (t11 : Int) (t27 : List Int) (t28 : Int) (t49 : List Int) (t50 : Int) (b0 : List Int) (b1 : List Int) : Option (f32.Ty1) :=
  bif (decide (t50 < 2)) then
    bif decide (0 ≤ t50 ∧ t50 < 2) then
      bif (decide ((IntKind.wrap .i64 (t11 + t50)) ≥ 0)) then
        bif (decide ((IntKind.wrap .i64 (t11 + t50)) < 8)) then
          let v24 := IntKind.wrap .i64 (t11 + t50)
          bif decide (0 ≤ v24 ∧ v24 < 8) then
            bif decide (0 ≤ v24 ∧ v24 < 8) then
              rec (t7, t11, t27, t28, t49, (IntKind.wrap .i64 (t50 + 1)), b0, (setD b1 (Int.toNat v24) (bits .or .u64 (List.getD b1 (Int.toNat v24) 0) (List.getD t49 (Int.toNat t50) 0))))
            else
              none
          else
            none
        else
          rec (t7, t11, t27, t28, t49, (IntKind.wrap .i64 (t50 + 1)), b0, b1)
      else
        rec (t7, t11, t27, t28, t49, (IntKind.wrap .i64 (t50 + 1)), b0, b1)
    else
      none
  else
    some (t7, t27, t28, b0, b1)
def f32.s2 (K : Nat) (rec : f32.Ty0 → Option (f32.Ty1)) (x : f32.Ty0) : Option (f32.Ty1) := f32.s2t K rec x.1 x.2.1 x.2.2.1 x.2.2.2.1 x.2.2.2.2.1 x.2.2.2.2.2.1 x.2.2.2.2.2.2.1 x.2.2.2.2.2.2.2
noncomputable def f32.s2.b : Code := (findLoop 2 f32.c).getD .skip
def f32.s2.h : Hint := { lv := [4, 6, 7, 11, 27, 28, 49, 50] }
def f32.s2.ho : Hint := { lv := [4, 6, 7, 27, 28] }
def f32.s2.shp (x : f32.Ty0) : VS := ⟨[(4, .ptr 0 0), (6, .ptr 1 0), (7, .int .i64 x.1), (11, .int .i64 x.2.1), (27, .agg [.ints .u64 8 x.2.2.1]), (28, .int .i64 x.2.2.2.1), (49, .agg [.ints .u64 2 x.2.2.2.2.1]), (50, .int .i64 x.2.2.2.2.2.1)], [(0, ([.ints .u64 4 x.2.2.2.2.2.2.1], 39, .norm)), (1, ([.ints .u64 8 x.2.2.2.2.2.2.2], 88, .norm))], 2⟩
def f32.s2.inX : VS → Option (f32.Ty0)
  | ⟨[(4, .ptr 0 0), (6, .ptr 1 0), (7, .int .i64 t7), (11, .int .i64 t11), (27, .agg [.ints .u64 8 t27]), (28, .int .i64 t28), (49, .agg [.ints .u64 2 t49]), (50, .int .i64 t50)], [(0, ([.ints .u64 4 b0], 39, .norm)), (1, ([.ints .u64 8 b1], 88, .norm))], 2⟩ => some (t7, t11, t27, t28, t49, t50, b0, b1)
  | _ => none
def f32.s2.o0 (y : f32.Ty1) : VS := ⟨[(4, .ptr 0 0), (6, .ptr 1 0), (7, .int .i64 y.1), (27, .agg [.ints .u64 8 y.2.1]), (28, .int .i64 y.2.2.1)], [(0, ([.ints .u64 4 y.2.2.2.1], 39, .norm)), (1, ([.ints .u64 8 y.2.2.2.2], 88, .norm))], 2⟩
def f32.s2.des : ∀ α : Type, (f32.Ty1) → (Ex → VS → Option α) → Option α := (des1 (.exit 2) f32.s2.o0)
def f32.s2.out : f32.Ty1 → Ex × VS := (fun y => (.exit 2, f32.s2.o0 y))
theorem f32.s2.desOK : ∀ α y (k : Ex → VS → Option α), f32.s2.des α y k = k (f32.s2.out y).1 (f32.s2.out y).2 := (fun _ _ _ => rfl)
def f32.s2.inY : Ex → VS → Option (f32.Ty1)
  | .exit 2, ⟨[(4, .ptr 0 0), (6, .ptr 1 0), (7, .int .i64 t7), (27, .agg [.ints .u64 8 t27]), (28, .int .i64 t28)], [(0, ([.ints .u64 4 b0], 39, .norm)), (1, ([.ints .u64 8 b1], 88, .norm))], 2⟩ => some (t7, t27, t28, b0, b1)
  | _, _ => none
def f32.s0t (K : Nat) (rec : f32.Ty1 → Option (f32.Ty2)) (t7 : Int) (t27 : List Int) (t28 : Int) (b0 : List Int) (b1 : List Int) : Option (f32.Ty2) :=
  bif (decide (t28 < 8)) then
    bif decide (0 ≤ t28 ∧ t28 < 8) then
      let v8 := List.getD t27 (Int.toNat t28) 0
      let v10 := IntKind.wrap .i64 ((IntKind.wrap .i64 (t28 * 32)) + t7)
      let v13 := Int.tmod v10 32
      bif decide (0 ≤ v13) then
        bif decide (0 ≤ v13) then
          (iter (f32.s2 K) K (t7, (IntKind.wrap .i64 ((IntKind.wrap .i64 (Int.tdiv v10 32)) - 8)), t27, t28, [(bits .and .u64 (shiftI .shl .u64 v8 v13) 4294967295), (Int.fdiv (shiftI .shl .u64 v8 v13) (2 ^ 32))], 0, b0, b1)).bind fun y33 =>
          rec (y33.1, y33.2.1, (IntKind.wrap .i64 (y33.2.2.1 + 1)), y33.2.2.2.1, y33.2.2.2.2)
        else
          none
      else
        none
    else
      none
  else
    some (b0, b1)
def f32.s0 (K : Nat) (rec : f32.Ty1 → Option (f32.Ty2)) (x : f32.Ty1) : Option (f32.Ty2) := f32.s0t K rec x.1 x.2.1 x.2.2.1 x.2.2.2.1 x.2.2.2.2
noncomputable def f32.s0.b : Code := (findLoop 0 f32.c).getD .skip
def f32.s0.h : Hint := { lv := [4, 6, 7, 27, 28] }
def f32.s0.ho : Hint := { lv := [4, 6] }
def f32.s0.shp (x : f32.Ty1) : VS := ⟨[(4, .ptr 0 0), (6, .ptr 1 0), (7, .int .i64 x.1), (27, .agg [.ints .u64 8 x.2.1]), (28, .int .i64 x.2.2.1)], [(0, ([.ints .u64 4 x.2.2.2.1], 39, .norm)), (1, ([.ints .u64 8 x.2.2.2.2], 88, .norm))], 2⟩
def f32.s0.inX : VS → Option (f32.Ty1)
  | ⟨[(4, .ptr 0 0), (6, .ptr 1 0), (7, .int .i64 t7), (27, .agg [.ints .u64 8 t27]), (28, .int .i64 t28)], [(0, ([.ints .u64 4 b0], 39, .norm)), (1, ([.ints .u64 8 b1], 88, .norm))], 2⟩ => some (t7, t27, t28, b0, b1)
  | _ => none
def f32.s0.o0 (y : f32.Ty2) : VS := ⟨[(4, .ptr 0 0), (6, .ptr 1 0)], [(0, ([.ints .u64 4 y.1], 39, .norm)), (1, ([.ints .u64 8 y.2], 88, .norm))], 2⟩
def f32.s0.des : ∀ α : Type, (f32.Ty2) → (Ex → VS → Option α) → Option α := (des1 (.exit 0) f32.s0.o0)
def f32.s0.out : f32.Ty2 → Ex × VS := (fun y => (.exit 0, f32.s0.o0 y))
theorem f32.s0.desOK : ∀ α y (k : Ex → VS → Option α), f32.s0.des α y k = k (f32.s0.out y).1 (f32.s0.out y).2 := (fun _ _ _ => rfl)
def f32.s0.inY : Ex → VS → Option (f32.Ty2)
  | .exit 0, ⟨[(4, .ptr 0 0), (6, .ptr 1 0)], [(0, ([.ints .u64 4 b0], 39, .norm)), (1, ([.ints .u64 8 b1], 88, .norm))], 2⟩ => some (b0, b1)
  | _, _ => none
def f32.lp (K : Nat) : Nat → Option (Hint × Summ) := tabLp [(2, f32.s2.h, summOf (iter (f32.s2 K) K) f32.s2.inX f32.s2.des), (0, f32.s0.h, summOf (iter (f32.s0 K) K) f32.s0.inX f32.s0.des)]
noncomputable def f32.tab (K : Nat) : List (Nat × Entry) := [(62, (f62.E K)), (63, (f63.E K))]
theorem f32.tabOK (K : Nat) : SpecOK Try.prog (tabSp (f32.tab K)) := tab_ok ((tab_cons (f62.ok K) (tab_cons (f63.ok K) tab_nil)))
theorem f32.s2.eq (K : Nat) (rec : f32.Ty0 → Option (f32.Ty1)) (x : f32.Ty0) : f32.s2 K rec x = roundL (getA tys) (tabSp (f32.tab K)) 76 0 (f32.lp K) 400 f32.s2.b f32.s2.h f32.s2.ho f32.s2.shp f32.s2.inX f32.s2.inY rec x := by kernel_rfl
theorem f32.s2.lok (K : Nat) : LoopsOK Try.prog 76 0 (f32.lp K) f32.s2.b := loops_ok (by
  have h : loopsIn (f32.lp K) f32.s2.b = [] := by kernel_rfl
  rw [h]; simp)
theorem f32.s2.ok (K : Nat) : SummOK Try.prog 76 0 (summOf (iter (f32.s2 K) K) f32.s2.inX f32.s2.des) f32.s2.b :=
  loop_ok mix tys_ok (f32.tabOK K) (h := f32.s2.h) (ho := f32.s2.ho) (shp := f32.s2.shp) (inX := f32.s2.inX) (des := f32.s2.des) (out := f32.s2.out) (inY := f32.s2.inY) (fuel := 400)
    (by intro st x h; unfold f32.s2.inX at h; split at h <;> simp at h; subst h; rfl)
    (by intro e st y h; unfold f32.s2.inY at h; split at h <;> simp at h <;> subst h <;> rfl)
    f32.s2.desOK (f32.s2.lok K) (f32.s2 K) (f32.s2.eq K) K
theorem f32.s0.eq (K : Nat) (rec : f32.Ty1 → Option (f32.Ty2)) (x : f32.Ty1) : f32.s0 K rec x = roundL (getA tys) (tabSp (f32.tab K)) 76 0 (f32.lp K) 400 f32.s0.b f32.s0.h f32.s0.ho f32.s0.shp f32.s0.inX f32.s0.inY rec x := by kernel_rfl
theorem f32.s0.lok (K : Nat) : LoopsOK Try.prog 76 0 (f32.lp K) f32.s0.b := loops_ok (by
  have h : loopsIn (f32.lp K) f32.s0.b = [(2, f32.s2.b)] := by kernel_rfl
  rw [h]
  intro p hp
  simp only [List.mem_cons, List.not_mem_nil, or_false] at hp
  rcases hp with rfl
  · exact ⟨_, rfl, (f32.s2.ok K)⟩)
theorem f32.s0.ok (K : Nat) : SummOK Try.prog 76 0 (summOf (iter (f32.s0 K) K) f32.s0.inX f32.s0.des) f32.s0.b :=
  loop_ok mix tys_ok (f32.tabOK K) (h := f32.s0.h) (ho := f32.s0.ho) (shp := f32.s0.shp) (inX := f32.s0.inX) (des := f32.s0.des) (out := f32.s0.out) (inY := f32.s0.inY) (fuel := 400)
    (by intro st x h; unfold f32.s0.inX at h; split at h <;> simp at h; subst h; rfl)
    (by intro e st y h; unfold f32.s0.inY at h; split at h <;> simp at h <;> subst h <;> rfl)
    f32.s0.desOK (f32.s0.lok K) (f32.s0 K) (f32.s0.eq K) K
theorem f32.loops (K : Nat) : LoopsOK Try.prog 76 0 (f32.lp K) f32.c := loops_ok (by
  have h : loopsIn (f32.lp K) f32.c = [(0, f32.s0.b), (2, f32.s2.b)] := by kernel_rfl
  rw [h]
  intro p hp
  simp only [List.mem_cons, List.not_mem_nil, or_false] at hp
  rcases hp with rfl | rfl
  · exact ⟨_, rfl, (f32.s0.ok K)⟩
  · exact ⟨_, rfl, (f32.s2.ok K)⟩)
def f32.T (K : Nat) (a0 : List Int) (a1 : Int) : Option (List Int) :=
  (f62.F K a0).bind fun y1 =>
  bif (decide (a1 ≤ (-256))) then
    (f63.F K [0, 0, 0, 0, 0, 0, 0, 0]).bind fun y3 =>
    some y3
  else
    bif (decide (a1 ≥ 256)) then
      (f63.F K [0, 0, 0, 0, 0, 0, 0, 0]).bind fun y5 =>
      some y5
    else
      (iter (f32.s0 K) K ((IntKind.wrap .i64 (a1 + 256)), y1, 0, [0, 0, 0, 0], [0, 0, 0, 0, 0, 0, 0, 0])).bind fun y35 =>
      (f63.F K y35.2).bind fun y36 =>
      some y36
def f32.F (K : Nat) (x : f32.Ty3) : Option (List Int) := f32.T K x.1 x.2
def f32.av (x : f32.Ty3) : List VV := [.agg [.ints .u64 4 x.1], .int .i64 x.2]
def f32.bl (_x : f32.Ty3) : List (Nat × Blk) := []
def f32.inA : VS → Option (f32.Ty3)
  | ⟨[(0, .agg [.ints .u64 4 a0]), (1, .int .i64 a1)], [], 0⟩ => some (a0, a1)
  | _ => none
def f32.o0 (y : List Int) : VS := ⟨[(0, .agg [.ints .u64 4 y])], [], 0⟩
def f32.des : ∀ α : Type, (List Int) → (VS → Option α) → Option α := (dv1 f32.o0)
def f32.out : List Int → VS := f32.o0
def f32.inR : VS → Option (List Int)
  | ⟨[(0, .agg [.ints .u64 4 y])], [], 0⟩ => some y
  | _ => none
noncomputable def f32.E (K : Nat) : Entry := genE 0 f32.inA (f32.F K) f32.des
theorem f32.eq (K : Nat) (x : f32.Ty3) : f32.F K x = xrun (getA tys) (tabSp (f32.tab K)) Try.f32.ntmps 0 (f32.lp K) 400 f32.c ⟨initL 0 (f32.av x), f32.bl x, 0⟩ (contF (getA tys) 0 Try.f32.results.toList f32.inR) := by kernel_rfl
theorem f32.ok (K : Nat) : EntryOK Try.prog 32 (f32.E K) :=
  gen_ok mix tys_ok (f32.tabOK K) Try.func32 (by kernel_rfl : Try.f32.body = some f32.c) (by kernel_rfl) (f32.loops K) (av := f32.av) (bl := f32.bl) (out := f32.out) (fuel := 400)
    (by intro s x h; unfold f32.inA at h; split at h <;> simp at h; subst h; rfl) (fun _ => Nat.le_of_ble_eq_true rfl)
    (by intro s y h; unfold f32.inR at h; split at h <;> simp at h <;> subst h <;> rfl) (fun _ _ _ => rfl) (f32.eq K)
end Go.Proofs

namespace Go.Proofs
open Go.VM
theorem no_carry {x a c : Nat} (ha : a < 32) (hX : x < 2 ^ a) (hv : c * 2 ^ a < 2 ^ 32) : x + c * 2 ^ a < 2 ^ 32 ∧ x ||| (c * 2 ^ a) = x + c * 2 ^ a := by
  constructor
  · have e : 2 ^ 32 = 2 ^ (32 - a) * 2 ^ a := by rw [← Nat.pow_add]; congr 1; omega
    rw [e] at hv ⊢
    have : c < 2 ^ (32 - a) := Nat.lt_of_mul_lt_mul_right hv
    have h2 : (c + 1) * 2 ^ a ≤ 2 ^ (32 - a) * 2 ^ a := Nat.mul_le_mul_right _ this
    rw [Nat.add_mul] at h2
    omega
  · rw [Nat.or_comm, ← Nat.shiftLeft_eq, ← Nat.shiftLeft_add_eq_or_of_lt hX, Nat.add_comm]
theorem put_in (X t a c : Nat) (ha : a < 32) (hX : X / 2 ^ (32 * t) < 2 ^ a) (hv : c * 2 ^ a < 2 ^ 32) (h1 : 8 ≤ t) (h2 : t < 16) :
    vec 8 (fun j => if j = t - 8 then (X / 2 ^ 256 / 2 ^ (32 * (t - 8)) % 2 ^ 32) ||| (c * 2 ^ a) else X / 2 ^ 256 / 2 ^ (32 * j) % 2 ^ 32) = halves ((X + c * 2 ^ a * 2 ^ (32 * t)) / 2 ^ 256) := by
  obtain ⟨g1, g2⟩ := no_carry ha hX hv
  have e1 : X / 2 ^ 256 / 2 ^ (32 * (t - 8)) = X / 2 ^ (32 * t) := by
    rw [Nat.div_div_eq_div_mul, ← Nat.pow_add]; congr 2; omega
  have e2 : X / 2 ^ (32 * t) % 2 ^ 32 = X / 2 ^ (32 * t) := Nat.mod_eq_of_lt (Nat.lt_of_le_of_lt (Nat.le_add_right _ _) g1)
  rw [e1, e2, g2, set_words 32 8 (X / 2 ^ 256) (t - 8) _ g1]
  congr 1
  have e3 : (X + c * 2 ^ a * 2 ^ (32 * t)) / 2 ^ 256 = X / 2 ^ 256 + c * 2 ^ a * 2 ^ (32 * (t - 8)) := by
    rw [show 32 * t = 32 * (t - 8) + 256 by omega, Nat.pow_add _ _ 256, ← Nat.mul_assoc, Nat.add_mul_div_right _ _ (Nat.two_pow_pos 256)]
  rw [e3]
  conv => rhs; rw [split_word 32 (X / 2 ^ 256) (t - 8)]
  rw [e1, e2]
  generalize X / 2 ^ (32 * t) = x
  generalize c * 2 ^ a = v
  generalize X / 2 ^ 256 / 2 ^ (32 * (t - 8 + 1)) = H
  generalize X / 2 ^ 256 % 2 ^ (32 * (t - 8)) = l
  rw [Nat.mul_comm v]
  simp only [Nat.mul_add]
  omega
theorem put_low (X t a c : Nat) (ha : a < 32) (hX : X / 2 ^ (32 * t) < 2 ^ a) (hv : c * 2 ^ a < 2 ^ 32) (h1 : t < 8) : halves (X / 2 ^ 256) = halves ((X + c * 2 ^ a * 2 ^ (32 * t)) / 2 ^ 256) := by
  obtain ⟨g1, _⟩ := no_carry ha hX hv
  have h2 : (X + c * 2 ^ a * 2 ^ (32 * t)) / 2 ^ (32 * t) < 2 ^ 32 := by rw [Nat.add_mul_div_right _ _ (Nat.two_pow_pos _)]; exact g1
  have h3 : X + c * 2 ^ a * 2 ^ (32 * t) < 2 ^ 32 * 2 ^ (32 * t) := (Nat.div_lt_iff_lt_mul (Nat.two_pow_pos _)).1 h2
  have h4 : 2 ^ 32 * 2 ^ (32 * t) ≤ 2 ^ 256 := by rw [← Nat.pow_add]; exact Nat.pow_le_pow_right (by decide) (by omega)
  rw [Nat.div_eq_of_lt (by omega), Nat.div_eq_of_lt (by omega)]
theorem put_high (X t v : Nat) (h1 : 16 ≤ t) : halves (X / 2 ^ 256) = halves ((X + v * 2 ^ (32 * t)) / 2 ^ 256) := by
  have e : (X + v * 2 ^ (32 * t)) / 2 ^ 256 = X / 2 ^ 256 + v * 2 ^ (32 * (t - 16)) * 2 ^ 256 := by
    rw [show 32 * t = 32 * (t - 16) + 256 + 256 by omega, Nat.pow_add _ _ 256, Nat.pow_add _ _ 256, ← Nat.mul_assoc, ← Nat.mul_assoc, Nat.add_mul_div_right _ _ (Nat.two_pow_pos 256)]
  have h := words_mod 32 8 (X / 2 ^ 256)
  have h' := words_mod 32 8 (X / 2 ^ 256 + v * 2 ^ (32 * (t - 16)) * 2 ^ 256)
  rw [show (32 * 8 : Nat) = 256 from rfl, Nat.add_mul_mod_self_right] at h'
  rw [show (32 * 8 : Nat) = 256 from rfl] at h
  rw [e, halves, halves, ← h, h']
theorem f32.put (K F X t a c k i t0 : Nat) (hk : k < 2) (ht : t = t0 + k) (ht' : t0 < 40) (ha : a < 32) (hX : X / 2 ^ (32 * t) < 2 ^ a) (hv : c * 2 ^ a < 2 ^ 32) (ps : List Int) (hp : ps.getD k 0 = ((c * 2 ^ a : Nat) : Int)) (x z : List Int) (rec : _ → _) :
    f32.s2 K rec (F, (t0 : Int) - 8, x, i, ps, k, z, halves (X / 2 ^ 256)) = rec ((F : Int), (t0 : Int) - 8, x, (i : Int), ps, ((k + 1 : Nat) : Int), z, halves ((X + c * 2 ^ a * 2 ^ (32 * t)) / 2 ^ 256)) := by
  simp only [f32.s2, f32.s2t]
  have h1 : decide ((k : Int) < 2) = true := decide_eq_true (by omega)
  have h2 : decide ((0 : Int) ≤ (k : Int) ∧ (k : Int) < 2) = true := inR_nat (n := 2) hk
  have h3 : IntKind.wrap .i64 ((t0 : Int) - 8 + (k : Int)) = (t : Int) - 8 := by rw [wrap_i _ (by omega) (by omega)]; omega
  have h4 : IntKind.wrap .i64 ((k : Int) + 1) = ((k + 1 : Nat) : Int) := by rw [wrap_i _ (by omega) (by omega)]; omega
  rw [h1, h2, h3, h4]
  simp only [cond_true]
  by_cases hl : t < 8
  · rw [decide_eq_false (by omega : ¬ ((t : Int) - 8 ≥ 0))]
    simp only [cond_false]
    rw [put_low X t a c ha hX hv hl]
  · rw [decide_eq_true (by omega : ((t : Int) - 8 ≥ 0))]
    simp only [cond_true]
    by_cases hh : t < 16
    · have h5 : (t : Int) - 8 = ((t - 8 : Nat) : Int) := by omega
      rw [decide_eq_true (by omega : ((t : Int) - 8 < 8)), h5]
      have h6 : decide ((0 : Int) ≤ ((t - 8 : Nat) : Int) ∧ ((t - 8 : Nat) : Int) < 8) = true := inR_nat (n := 8) (by omega)
      rw [h6]
      simp only [cond_true, Int.toNat_natCast]
      rw [getD_words (show t - 8 < 8 by omega), hp, bits_or_u64_nat _ _ (Nat.lt_trans (Nat.mod_lt _ (by decide)) (by decide)) (by omega)]
      have h7 : halves (X / 2 ^ 256) = vec 8 (fun j => X / 2 ^ 256 / 2 ^ (32 * j) % 2 ^ 32) := rfl
      rw [h7, setD_vec (show t - 8 < 8 by omega), put_in X t a c ha hX hv (by omega) hh]
    · rw [decide_eq_false (by omega : ¬ ((t : Int) - 8 < 8))]
      simp only [cond_false]
      rw [put_high X t (c * 2 ^ a) (by omega)]
theorem split_shift (h u : Nat) (hu : u < 32) : h * 2 ^ u % 2 ^ 32 = h % 2 ^ (32 - u) * 2 ^ u := by
  have e : 2 ^ 32 = 2 ^ (32 - u) * 2 ^ u := by rw [← Nat.pow_add]; congr 1; omega
  rw [e, Nat.mul_mod_mul_right]
theorem parts_sum (M T q v : Nat) : M + v % q * T + v / q * 1 * (T * q) = M + v * T := by
  have h := Nat.mod_add_div v q
  have h2 : v % q * T + v / q * (T * q) = v * T := by
    conv => rhs; rw [← h]
    rw [Nat.add_mul, Nat.mul_comm q, Nat.mul_assoc, Nat.mul_comm q]
  rw [Nat.mul_one, Nat.add_assoc, h2]
theorem parts_mul (L a d u s : Nat) : (L + a * d) * (u * s) = L * (u * s) + d * u * (a * s) := by
  rw [Nat.add_mul]
  simp only [Nat.mul_comm, Nat.mul_left_comm]
theorem f32.round (K A F i : Nat) (hF : F < 512) (hi : i < 8) (hK : 2 < K) (rec : _ → _) (z : List Int) :
    f32.s0 K rec (F, halves A, i, z, halves (A % 2 ^ (32 * i) * 2 ^ F / 2 ^ 256)) = rec ((F : Int), halves A, ((i + 1 : Nat) : Int), z, halves (A % 2 ^ (32 * (i + 1)) * 2 ^ F / 2 ^ 256)) := by
  simp only [f32.s0, f32.s0t]
  have h1 : decide ((i : Int) < 8) = true := decide_eq_true (by omega)
  have h2 : decide ((0 : Int) ≤ (i : Int) ∧ (i : Int) < 8) = true := inR_nat (n := 8) hi
  have e1 : IntKind.wrap .i64 (IntKind.wrap .i64 ((i : Int) * 32) + (F : Int)) = ((32 * i + F : Nat) : Int) := by
    rw [wrap_i ((i : Int) * 32) (by omega) (by omega), wrap_i _ (by omega) (by omega)]; omega
  have e2 : Int.tmod ((32 * i + F : Nat) : Int) 32 = ((F % 32 : Nat) : Int) := by
    rw [show (32 : Int) = ((32 : Nat) : Int) from rfl, tmod_nat]; congr 1; omega
  have e3 : IntKind.wrap .i64 (IntKind.wrap .i64 (Int.tdiv ((32 * i + F : Nat) : Int) 32) - 8) = ((i + F / 32 : Nat) : Int) - 8 := by
    rw [show (32 : Int) = ((32 : Nat) : Int) from rfl, tdiv_nat, wrap_i ((_ : Nat) : Int) (by omega) (by omega), wrap_i _ (by omega) (by omega)]
    omega
  have h3 : decide ((0 : Int) ≤ ((F % 32 : Nat) : Int)) = true := decide_eq_true (by omega)
  rw [h1, h2, e1, e2, e3, h3]
  simp only [cond_true, Int.toNat_natCast]
  rw [getD_words hi]
  have hd : A / 2 ^ (32 * i) % 2 ^ 32 < 2 ^ 32 := Nat.mod_lt _ (by decide)
  have hu : F % 32 < 32 := Nat.mod_lt _ (by decide)
  have hmod : A % 2 ^ (32 * (i + 1)) = A % 2 ^ (32 * i) + 2 ^ (32 * i) * (A / 2 ^ (32 * i) % 2 ^ 32) := by
    rw [show 32 * (i + 1) = 32 * i + 32 from Nat.mul_succ _ _, Nat.pow_add _ _ 32, Nat.mod_mul]
  have hlow : A % 2 ^ (32 * i) < 2 ^ (32 * i) := Nat.mod_lt _ (Nat.two_pow_pos _)
  rw [hmod]
  generalize A % 2 ^ (32 * i) = L at *
  generalize A / 2 ^ (32 * i) % 2 ^ 32 = d at *
  have hF2 : 2 ^ F = 2 ^ (F % 32) * 2 ^ (32 * (F / 32)) := by rw [← Nat.pow_add]; congr 1; omega
  have ht : 2 ^ (32 * (i + F / 32)) = 2 ^ (32 * i) * 2 ^ (32 * (F / 32)) := by rw [Nat.mul_add, Nat.pow_add]
  have hp1 : 2 ^ (F % 32) ≤ 2 ^ 31 := Nat.pow_le_pow_right (by decide) (by omega)
  have hdu : d * 2 ^ (F % 32) < 2 ^ 63 := by
    calc d * 2 ^ (F % 32) ≤ d * 2 ^ 31 := Nat.mul_le_mul_left _ hp1
      _ < 2 ^ 32 * 2 ^ 31 := Nat.mul_lt_mul_of_pos_right hd (by decide)
      _ = 2 ^ 63 := by decide
  have e4 : shiftI .shl .u64 (d : Int) ((F % 32 : Nat) : Int) = ((d * 2 ^ (F % 32) : Nat) : Int) := by
    show IntKind.wrap .u64 ((d : Int) * 2 ^ (min (Int.toNat ((F % 32 : Nat) : Int)) 64)) = _
    rw [Int.toNat_natCast, Nat.min_eq_left (by omega), show (d : Int) * 2 ^ (F % 32) = ((d * 2 ^ (F % 32) : Nat) : Int) by simp, wrap_nat, Nat.mod_eq_of_lt (by omega)]
  rw [e4, and_mask32 _ (by omega), fdiv_nat]
  have hinv : L * 2 ^ F / 2 ^ (32 * (i + F / 32)) < 2 ^ (F % 32) := by
    rw [hF2, ht, ← Nat.mul_assoc, Nat.mul_div_mul_right _ _ (Nat.two_pow_pos _)]
    refine Nat.div_lt_of_lt_mul ?_
    exact Nat.mul_lt_mul_of_pos_right hlow (Nat.two_pow_pos _)
  have hlo := split_shift d (F % 32) hu
  obtain ⟨k, rfl⟩ : ∃ k, K = k + 3 := ⟨K - 3, by omega⟩
  have r0 := f32.put (k + 3) F (L * 2 ^ F) (i + F / 32) (F % 32) (d % 2 ^ (32 - F % 32)) 0 i (i + F / 32) (by decide) rfl (by omega) hu hinv (by rw [← hlo]; exact Nat.mod_lt _ (by decide))
    [((d * 2 ^ (F % 32) % 4294967296 : Nat) : Int), ((d * 2 ^ (F % 32) / 2 ^ 32 : Nat) : Int)] (by rw [← hlo]; rfl) (halves A) z (iter (f32.s2 (k + 3)) (k + 2))
  rw [← hlo] at r0
  have hX1 : (L * 2 ^ F + d * 2 ^ (F % 32) % 2 ^ 32 * 2 ^ (32 * (i + F / 32))) / 2 ^ (32 * (i + F / 32 + 1)) < 2 ^ 0 := by
    rw [Nat.pow_zero, Nat.lt_one_iff]
    refine Nat.div_eq_of_lt ?_
    obtain ⟨g1, _⟩ := no_carry hu hinv (show d % 2 ^ (32 - F % 32) * 2 ^ (F % 32) < 2 ^ 32 by rw [← hlo]; exact Nat.mod_lt _ (by decide))
    rw [← hlo] at g1
    rw [show 32 * (i + F / 32 + 1) = 32 * (i + F / 32) + 32 from Nat.mul_succ _ _, Nat.pow_add, Nat.mul_comm (2 ^ (32 * (i + F / 32))) (2 ^ 32)]
    refine (Nat.div_lt_iff_lt_mul (Nat.two_pow_pos _)).1 ?_
    rw [Nat.add_mul_div_right _ _ (Nat.two_pow_pos _)]
    exact g1
  have r1 := f32.put (k + 3) F _ (i + F / 32 + 1) 0 (d * 2 ^ (F % 32) / 2 ^ 32) 1 i (i + F / 32) (by decide) rfl (by omega) (by decide) hX1 (by rw [Nat.pow_zero, Nat.mul_one]; omega)
    [((d * 2 ^ (F % 32) % 4294967296 : Nat) : Int), ((d * 2 ^ (F % 32) / 2 ^ 32 : Nat) : Int)] (by rw [Nat.pow_zero, Nat.mul_one]; rfl) (halves A) z (iter (f32.s2 (k + 3)) (k + 1))
  have hsum : L * 2 ^ F + d * 2 ^ (F % 32) % 2 ^ 32 * 2 ^ (32 * (i + F / 32)) + d * 2 ^ (F % 32) / 2 ^ 32 * 2 ^ 0 * 2 ^ (32 * (i + F / 32 + 1)) = (L + 2 ^ (32 * i) * d) * 2 ^ F := by
    have e : 2 ^ (32 * (i + F / 32 + 1)) = 2 ^ (32 * (i + F / 32)) * 2 ^ 32 := by rw [show 32 * (i + F / 32 + 1) = 32 * (i + F / 32) + 32 from Nat.mul_succ _ _, Nat.pow_add 2 (32 * (i + F / 32)) 32]
    rw [e, Nat.pow_zero, parts_sum, ht, hF2]
    exact (parts_mul _ _ _ _ _).symm
  rw [hsum] at r1
  have fin : iter (f32.s2 (k + 3)) (k + 3) ((F : Int), ((i + F / 32 : Nat) : Int) - 8, halves A, (i : Int), [((d * 2 ^ (F % 32) % 4294967296 : Nat) : Int), ((d * 2 ^ (F % 32) / 2 ^ 32 : Nat) : Int)], 0, z, halves (L * 2 ^ F / 2 ^ 256)) =
      some ((F : Int), halves A, (i : Int), z, halves ((L + 2 ^ (32 * i) * d) * 2 ^ F / 2 ^ 256)) := by
    rw [iter]
    refine Eq.trans r0 ?_
    rw [iter]
    refine Eq.trans r1 ?_
    rw [iter]
    rfl
  rw [fin]
  simp only [Option.bind_some]
  rw [wrap_i _ (by omega) (by omega)]
  rfl
theorem f32.mid (K A F : Nat) (hA : A < 2 ^ 256) (h0 : 0 < F) (hF : F < 512) (hK : 8 < K) : f32.F K (num A, (F : Int) - 256) = some (num (A * 2 ^ F / 2 ^ 256)) := by
  simp only [f32.F, f32.T, f62.spec, Option.bind_some]
  rw [decide_eq_false (by omega : ¬ ((F : Int) - 256 ≤ -256)), decide_eq_false (by omega : ¬ ((F : Int) - 256 ≥ 256)), wrap_i _ (by omega) (by omega), show (F : Int) - 256 + 256 = (F : Int) by omega]
  simp only [cond_false]
  have key := iter_for (stp := f32.s0 K) (N := 8) (fun i => ((F : Int), halves A, (i : Int), ([0, 0, 0, 0] : List Int), halves (A % 2 ^ (32 * i) * 2 ^ F / 2 ^ 256)))
    (y := some (([0, 0, 0, 0] : List Int), halves (A * 2 ^ F / 2 ^ 256))) (fun i hi rec => f32.round K A F i hF hi (by omega) rec _) (fun rec => by
      simp only [f32.s0, f32.s0t]
      rw [show (32 * 8 : Nat) = 256 from rfl, Nat.mod_eq_of_lt hA]
      rfl) hK
  have e0 : A % 2 ^ (32 * 0) * 2 ^ F / 2 ^ 256 = 0 := by simp [Nat.mod_one]
  rw [e0] at key
  have key' : iter (f32.s0 K) K ((F : Int), halves A, 0, [0, 0, 0, 0], [0, 0, 0, 0, 0, 0, 0, 0]) = some (([0, 0, 0, 0] : List Int), halves (A * 2 ^ F / 2 ^ 256)) := key
  rw [key']
  simp only [Option.bind_some, f63.spec]
theorem f32.far (K A : Nat) (n : Int) (h : n ≤ -256 ∨ 256 ≤ n) : f32.F K (num A, n) = some (num 0) := by
  simp only [f32.F, f32.T, f62.spec, Option.bind_some]
  have e : f63.F K [0, 0, 0, 0, 0, 0, 0, 0] = some (num 0) := f63.spec K 0
  rw [e]
  by_cases h1 : n ≤ -256
  · rw [decide_eq_true h1]; rfl
  · rw [decide_eq_false h1, decide_eq_true (show n ≥ 256 by omega)]; rfl
theorem f32.up (K A n : Nat) (hA : A < 2 ^ 256) (hK : 8 < K) : f32.F K (num A, (n : Int)) = some (num (A * 2 ^ n)) := by
  rcases Nat.lt_or_ge n 256 with h | h
  · have := f32.mid K A (n + 256) hA (by omega) (by omega) hK
    rw [show ((n + 256 : Nat) : Int) - 256 = (n : Int) by omega, Nat.pow_add, ← Nat.mul_assoc, Nat.mul_div_cancel _ (Nat.two_pow_pos 256)] at this
    exact this
  · rw [f32.far K A n (.inr (by omega))]
    have := words_mod 64 4 (A * 2 ^ n)
    rw [show (64 * 4 : Nat) = 256 from rfl, show n = (n - 256) + 256 by omega, Nat.pow_add, ← Nat.mul_assoc, Nat.mul_mod_left] at this
    rw [num, this, show n = (n - 256) + 256 by omega, Nat.pow_add, ← Nat.mul_assoc]
    simp
theorem f32.down (K A n : Nat) (hA : A < 2 ^ 256) (hK : 8 < K) : f32.F K (num A, -(n : Int)) = some (num (A / 2 ^ n)) := by
  rcases Nat.lt_or_ge n 256 with h | h
  · have := f32.mid K A (256 - n) hA (by omega) (by omega) hK
    have e : A * 2 ^ (256 - n) / 2 ^ 256 = A / 2 ^ n := by
      have : (2 : Nat) ^ 256 = 2 ^ n * 2 ^ (256 - n) := by rw [← Nat.pow_add]; congr 1; omega
      rw [this, Nat.mul_div_mul_right _ _ (Nat.two_pow_pos _)]
    rw [show ((256 - n : Nat) : Int) - 256 = -(n : Int) by omega, e] at this
    exact this
  · rw [f32.far K A _ (.inl (by omega)), Nat.div_eq_of_lt (Nat.lt_of_lt_of_le hA (Nat.pow_le_pow_right (by decide) h))]
end Go.Proofs

namespace Go.Proofs
open Go.VM
theorem num_mod (A : Nat) : num (A % 2 ^ 256) = num A := words_mod 64 4 A
theorem eqL_num (A B : Nat) : eqL 4 (num A) (num B) = decide (A % 2 ^ 256 = B % 2 ^ 256) := by
  rw [← num_mod A, ← num_mod B]
  exact eqL_words (w := 64) (n := 4) (Nat.mod_lt _ (Nat.two_pow_pos 256)) (Nat.mod_lt _ (Nat.two_pow_pos 256))
theorem f70.all (A B : Nat) : f70.F 100000 (num A, num B) = some (num (A + B), (((A % 2 ^ 256 + B % 2 ^ 256) / 2 ^ 256 : Nat) : Int)) := by
  rw [f70.spec 100000 A B (by decide)]
  simp only [carry, Nat.add_zero]
theorem f67.all (A B : Nat) : f67.F 100000 (num A, num B) = some (num (A % 2 ^ 256 + 2 ^ 256 - B % 2 ^ 256), ((if A % 2 ^ 256 < B % 2 ^ 256 then 1 else 0 : Nat) : Int)) := by
  rw [← num_mod A, ← num_mod B, f67.spec 100000 _ _ (Nat.mod_lt _ (Nat.two_pow_pos 256)) (Nat.mod_lt _ (Nat.two_pow_pos 256)) (by decide)]
theorem f35.all (A B : Nat) : f35.F 100000 (num A, num B) = some (cmp (A % 2 ^ 256) (B % 2 ^ 256)) := by
  rw [← num_mod A, ← num_mod B, f35.spec 100000 _ _ (Nat.mod_lt _ (Nat.two_pow_pos 256)) (Nat.mod_lt _ (Nat.two_pow_pos 256)) (by decide)]
theorem f33.one (K : Nat) : f33.F K 1 = some (num 1) := f33.spec K 1 (by decide)
theorem mod_self_of {A : Nat} (hA : A < 2 ^ 256) : A % 2 ^ 256 = A := Nat.mod_eq_of_lt hA
end Go.Proofs

namespace Go.Proofs
open Go.VM
end Go.Proofs

namespace Go.Proofs
open Go.VM
theorem f32.upA (A n : Nat) : f32.F 100000 (num A, (n : Int)) = some (num (A % 2 ^ 256 * 2 ^ n)) := by
  rw [← num_mod A, f32.up 100000 _ n (Nat.mod_lt _ (Nat.two_pow_pos 256)) (by decide)]
theorem f32.downA (A n : Nat) : f32.F 100000 (num A, -(n : Int)) = some (num (A % 2 ^ 256 / 2 ^ n)) := by
  rw [← num_mod A, f32.down 100000 _ n (Nat.mod_lt _ (Nat.two_pow_pos 256)) (by decide)]
theorem f83.all (A i : Nat) (hi : i < 9223372036854775808) : f83.F 100000 (num A, (i : Int)) = some ((A % 2 ^ 256 / 2 ^ i % 2 : Nat) : Int) := by
  rw [← num_mod A, f83.spec 100000 _ i hi (Nat.mod_lt _ (Nat.two_pow_pos 256))]
theorem f66.all (A : Nat) : f66.F 100000 (num A) = some ((blen (A % 2 ^ 256) : Nat) : Int) := by
  rw [← num_mod A, f66.spec 100000 _ (Nat.mod_lt _ (Nat.two_pow_pos 256)) (by decide)]
theorem wf_u8 {z : Int} (h : (Lit.int .u8 z).wf = true) : ∃ n : Nat, n < 256 ∧ z = (n : Int) := by
  simp [Lit.wf, IntKind.min, IntKind.max, IntKind.signed, IntKind.bits] at h
  exact ⟨z.toNat, by omega, by omega⟩
end Go.Proofs

namespace Go.Proofs
open Go.VM
theorem f33.nat (K n : Nat) (h : n < 18446744073709551616) : f33.F K (n : Int) = some (num n) := f33.spec K n h
end Go.Proofs

namespace Go.Proofs
open Go.VM
end Go.Proofs

namespace Go.Proofs
open Go.VM
end Go.Proofs

namespace Go.Proofs
open Go.VM
end Go.Proofs

namespace Go.Proofs
open Go.VM
end Go.Proofs

namespace Go.Proofs
open Go.VM
end Go.Proofs

namespace Go.Proofs
open Go.VM
end Go.Proofs

namespace Go.Proofs
open Go.VM
end Go.Proofs

namespace Go.Proofs
open Go.VM
end Go.Proofs

namespace Go.Proofs
open Go.VM
end Go.Proofs

namespace Go.Proofs
open Go.VM
end Go.Proofs

namespace Go.Proofs
open Go.VM
end Go.Proofs

namespace Go.Proofs
open Go.VM
end Go.Proofs

namespace Go.Proofs
open Go.VM
end Go.Proofs

namespace Go.Proofs
open Go.VM
end Go.Proofs

namespace Go.Proofs
open Go.VM
def be : Nat → Nat → List Int
  | 0, _ => []
  | n + 1, x => be n (x / 256) ++ [((x % 256 : Nat) : Int)]
theorem be_length : ∀ n x : Nat, (be n x).length = n
  | 0, _ => rfl
  | n + 1, x => by rw [be, List.length_append, be_length n]; rfl
def octets (l : List Int) : Prop := ∀ x ∈ l, 0 ≤ x ∧ x < 256
theorem be_octets : ∀ n x : Nat, octets (be n x)
  | 0, _ => fun _ h => by cases h
  | n + 1, x => fun y h => by
    rw [be, List.mem_append] at h
    rcases h with h | h
    · exact be_octets n _ y h
    · simp only [List.mem_singleton] at h
      subst h
      omega
def tv (l : List Int) : Nat := l.foldl (fun a x => 256 * a + x.toNat) 0
theorem tv_snoc (l : List Int) (x : Int) : tv (l ++ [x]) = 256 * tv l + x.toNat := by simp [tv]
theorem tv_lt : ∀ (n : Nat) (l : List Int), l.length = n → octets l → tv l < 256 ^ n
  | 0, l, h, _ => by
    have : l = [] := List.length_eq_zero_iff.1 h
    subst this; simp [tv]
  | n + 1, l, h, ho => by
    have hne : l ≠ [] := by intro e; subst e; cases h
    rw [← List.dropLast_concat_getLast hne, tv_snoc]
    have h1 := tv_lt n l.dropLast (by simp [h]) (fun x hx => ho x (List.dropLast_subset l hx))
    have h2 := ho _ (List.getLast_mem hne)
    rw [Nat.pow_succ]
    omega
theorem padT_self (l : List Int) {n : Nat} (h : l.length = n) : padT l n = l := by
  subst h
  refine List.ext_getElem? fun i => ?_
  by_cases hi : i < l.length
  · simp [padT, hi]
  · rw [List.getElem?_eq_none (by simpa [padT] using hi), List.getElem?_eq_none (by omega)]
theorem subI_cut (l : List Int) (off m : Nat) (h : off + m ≤ l.length) : subI l off m = (l.drop off).take m := by
  refine List.ext_getElem? fun i => ?_
  rw [List.getElem?_take, List.getElem?_drop]
  by_cases hi : i < m
  · rw [if_pos hi]
    have : off + i < l.length := by omega
    simp [subI, hi, this]
  · rw [if_neg hi, List.getElem?_eq_none (by simpa [subI] using hi)]
theorem subI_self (l : List Int) {n : Nat} (h : l.length = n) : subI l 0 n = l := by
  rw [subI_cut l 0 n (by omega), List.drop_zero, List.take_of_length_le (by omega)]
theorem fitB_true {x : Nat} (h : x ≤ 140737488355328) : fitB x = true := by simp only [fitB, Nat.ble_eq]; exact h
theorem ble_true {x y : Nat} (h : x ≤ y) : Nat.ble x y = true := by simp only [Nat.ble_eq]; exact h
theorem altl {A B C : Type} (f : A → C) (g : B → C) (a : A) : alt f g (.inl a) = f a := Eq.trans (show alt f g (.inl a) = f a from by unfold alt; rfl) (Eq.symm (Eq.symm rfl))
theorem altr {A B C : Type} (f : A → C) (g : B → C) (b : B) : alt f g (.inr b) = g b := Eq.trans (show alt f g (.inr b) = g b from by unfold alt; rfl) (Eq.symm (Eq.symm rfl))
theorem be_mod : ∀ (n x : Nat), be n (x % 256 ^ n) = be n x
  | 0, _ => rfl
  | n + 1, x => by
    rw [be, be]
    have h1 : x % 256 ^ (n + 1) / 256 = x / 256 % 256 ^ n := by rw [Nat.pow_succ', Nat.mod_mul_right_div_self]
    have h2 : x % 256 ^ (n + 1) % 256 = x % 256 := by rw [Nat.pow_succ', Nat.mod_mul_right_mod]
    rw [h1, h2, be_mod n]
theorem tv_append (a b : List Int) : tv (a ++ b) = tv a * 256 ^ b.length + tv b := by
  have key : ∀ (b : List Int) (x : Nat), b.foldl (fun a x => 256 * a + x.toNat) x = x * 256 ^ b.length + b.foldl (fun a x => 256 * a + x.toNat) 0 := by
    intro b
    induction b with
    | nil => intro x; simp
    | cons y b ih =>
      intro x
      rw [List.foldl_cons, ih, List.foldl_cons, ih (256 * 0 + y.toNat), List.length_cons, Nat.pow_succ']
      have : (256 * x + y.toNat) * 256 ^ b.length = x * (256 * 256 ^ b.length) + y.toNat * 256 ^ b.length := by
        rw [Nat.add_mul, Nat.mul_comm 256 x, Nat.mul_assoc]
      rw [this, Nat.mul_zero, Nat.zero_add]; omega
  show (a ++ b).foldl _ 0 = _
  rw [List.foldl_append, key]
  rfl
theorem octets_append {a b : List Int} (ha : octets a) (hb : octets b) : octets (a ++ b) := fun x hx => (List.mem_append.1 hx).elim (ha x) (hb x)
end Go.Proofs
