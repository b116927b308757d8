/- Plain laws: lemmas that hold with no condition but those that each states. -/
import Derived.Test.YtjkelipglcnpmaaPlR2
import Derived.Test.YtjkelipglcnpmaaF9
namespace Go.Proofs
open Go.VM

theorem f38.upA (A n : Nat) : f38.F 1000 (num A, (n : Int)) = some (num (A % 2 ^ 256 * 2 ^ n)) := by
  rw [← num_mod A, f38.up 1000 _ n (Nat.mod_lt _ (Nat.two_pow_pos 256)) (by decide)]
theorem f38.downA (A n : Nat) : f38.F 1000 (num A, -(n : Int)) = some (num (A % 2 ^ 256 / 2 ^ n)) := by
  rw [← num_mod A, f38.down 1000 _ n (Nat.mod_lt _ (Nat.two_pow_pos 256)) (by decide)]
theorem f40.all (A i : Nat) (hi : i < 9223372036854775808) : f40.F 1000 (num A, (i : Int)) = some ((A % 2 ^ 256 / 2 ^ i % 2 : Nat) : Int) := by
  rw [← num_mod A, f40.spec 1000 _ i hi (Nat.mod_lt _ (Nat.two_pow_pos 256))]
theorem f42.all (A : Nat) : f42.F 1000 (num A) = some ((blen (A % 2 ^ 256) : Nat) : Int) := by
  rw [← num_mod A, f42.spec 1000 _ (Nat.mod_lt _ (Nat.two_pow_pos 256)) (by decide)]

theorem mod_mul_shift (A m : Nat) (hm : m ≤ 256) : A * 2 ^ (256 - m) % 2 ^ 256 / 2 ^ (256 - m) = A % 2 ^ m := by
  have e : 2 ^ 256 = 2 ^ m * 2 ^ (256 - m) := by rw [← Nat.pow_add]; congr 1; omega
  rw [e, Nat.mul_mod_mul_right, Nat.mul_div_cancel _ (Nat.two_pow_pos _)]

/-- LimbsMoves. -/
theorem f9.plain (A m n : Nat) (hA : A < 2 ^ 256) (hm : m < 256) (hn : n < 256) : f9.F 1000 (num A, (m : Int), (n : Int)) = some true := by
  have hA' := mod_self_of hA
  have w1 : IntKind.wrap .i64 (m : Int) = (m : Int) := wrap_i _ (by omega) (by omega)
  have w2 : IntKind.wrap .i64 (n : Int) = (n : Int) := wrap_i _ (by omega) (by omega)
  have w3 : IntKind.wrap .i64 (0 - (m : Int)) = -(m : Int) := by rw [wrap_i _ (by omega) (by omega)]; omega
  have w4 : IntKind.wrap .i64 (0 - (n : Int)) = -(n : Int) := by rw [wrap_i _ (by omega) (by omega)]; omega
  have w5 : IntKind.wrap .i64 ((m : Int) + (n : Int)) = ((m + n : Nat) : Int) := by rw [wrap_i _ (by omega) (by omega)]; omega
  have w6 : IntKind.wrap .i64 (-(m : Int) - (n : Int)) = -((m + n : Nat) : Int) := by rw [wrap_i _ (by omega) (by omega)]; omega
  have w7 : IntKind.wrap .i64 (256 - (m : Int)) = ((256 - m : Nat) : Int) := by rw [wrap_i _ (by omega) (by omega)]; omega
  have w8 : IntKind.wrap .i64 ((m : Int) - 256) = -((256 - m : Nat) : Int) := by rw [wrap_i _ (by omega) (by omega)]; omega
  have s1 : f38.F 1000 (num A, 1) = some (num (A % 2 ^ 256 * 2 ^ 1)) := f38.upA A 1
  have s2 : f40.F 1000 (num A, 255) = some ((A % 2 ^ 256 / 2 ^ 255 % 2 : Nat) : Int) := f40.all A 255 (by decide)
  have d1 : A / 2 ^ m % 2 ^ 256 = A / 2 ^ m := Nat.mod_eq_of_lt (Nat.lt_of_le_of_lt (Nat.div_le_self _ _) hA)
  have hcut : A / 2 ^ m * 2 ^ m ≤ A := Nat.div_mul_le_self A (2 ^ m)
  have d2 : A / 2 ^ m * 2 ^ m % 2 ^ 256 = A / 2 ^ m * 2 ^ m := Nat.mod_eq_of_lt (Nat.lt_of_le_of_lt hcut hA)
  have hrest : A + 2 ^ 256 - A / 2 ^ m * 2 ^ m = A % 2 ^ m + 2 ^ 256 := by
    have := Nat.mod_add_div A (2 ^ m)
    rw [Nat.mul_comm] at this
    omega
  have hr : A % 2 ^ m < 2 ^ m := Nat.mod_lt _ (Nat.two_pow_pos m)
  have hr2 : (A % 2 ^ m + 2 ^ 256) % 2 ^ 256 = A % 2 ^ m := by rw [Nat.add_mod_right]; exact Nat.mod_eq_of_lt (Nat.lt_of_le_of_lt (Nat.mod_le _ _) hA)
  simp only [f9.F, f9.T, w1, w2, w3, w4, w5, w6, w7, w8, f38.upA, f38.downA, s1, s2, f32.all, f34.all, f42.all, f51.spec, bind_s, cond_t, eqL_num, Bool.and_true, hA', d1, d2, hrest, hr2]
  have e1 : decide (A * 2 ^ m % 2 ^ 256 * 2 ^ n % 2 ^ 256 = A * 2 ^ (m + n) % 2 ^ 256) = true := decide_eq_true (by rw [Nat.mod_mul_mod, Nat.pow_add, Nat.mul_assoc])
  have e2 : decide (A / 2 ^ m / 2 ^ n % 2 ^ 256 = A / 2 ^ (m + n) % 2 ^ 256) = true := decide_eq_true (by rw [Nat.div_div_eq_div_mul, Nat.pow_add])
  have e3 : decide ((A + A) % 2 ^ 256 = A * 2 ^ 1 % 2 ^ 256) = true := decide_eq_true (by rw [show A * 2 ^ 1 = A + A by omega])
  have e4 : ((((A + A) / 2 ^ 256 : Nat) : Int) == ((A / 2 ^ 255 % 2 : Nat) : Int)) = true := by
    rw [show (A + A) / 2 ^ 256 = A / 2 ^ 255 % 2 by omega]
    exact beq_self_eq_true _
  have e5 : decide (((blen (A % 2 ^ m) : Nat) : Int) ≤ (m : Int)) = true := decide_eq_true (by have := blen_le hr; omega)
  have e6 : decide (A % 2 ^ m = A * 2 ^ (256 - m) % 2 ^ 256 / 2 ^ (256 - m) % 2 ^ 256) = true := decide_eq_true (by
    rw [mod_mul_shift A m (by omega)]
    exact (Nat.mod_eq_of_lt (Nat.lt_of_le_of_lt (Nat.mod_le _ _) hA)).symm)
  rw [e1, e2, e3, e4, e5, e6]
  simp only [cond_t]

theorem wf_u8 {z : Int} (h : (Lit.int .u8 z).wf = true) : ∃ n : Nat, n < 256 ∧ z = (n : Int) := by
  simp [Lit.wf, IntKind.min, IntKind.max, IntKind.signed, IntKind.bits] at h
  exact ⟨z.toNat, by omega, by omega⟩

theorem f9.holds (A : Nat) (m n : Int) (hA : A < 2 ^ 256) (hm : (Lit.int .u8 m).wf = true) (hn : (Lit.int .u8 n).wf = true) : f9.F 1000 (num A, m, n) = some true := by
  obtain ⟨m, hm', rfl⟩ := wf_u8 hm
  obtain ⟨n, hn', rfl⟩ := wf_u8 hn
  exact f9.plain A m n hA hm' hn'

end Go.Proofs
