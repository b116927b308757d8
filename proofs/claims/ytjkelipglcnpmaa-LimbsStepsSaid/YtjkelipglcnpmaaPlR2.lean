/- Plain laws: lemmas that hold with no condition but those that each states. -/
import Derived.Test.YtjkelipglcnpmaaPlR
import Derived.Test.YtjkelipglcnpmaaF4
import Derived.Test.YtjkelipglcnpmaaF6
import Derived.Test.YtjkelipglcnpmaaF7
namespace Go.Proofs
open Go.VM
/-- LimbsTurned. -/
theorem f4.holds (A : Nat) (hA : A < 2 ^ 256) : f4.F 1000 (num A) = some true := by
  have hA' := mod_self_of hA
  have hc : (2 ^ 256 - 1 - A) % 2 ^ 256 = 2 ^ 256 - 1 - A := mod_self_of (by omega)
  simp only [f4.F, f4.T, f48.spec _ A hA, f49.spec, f50.spec, f51.spec, f46.one, f32.all, f34.all, bind_s, eqL_num, Bool.and_true, hA', hc, cond_t, Nat.zero_mod]
  by_cases h0 : A = 0
  · subst h0
    show _ = _
    kernel_rfl
  · rw [decide_eq_false (show ¬ (A = 0) from h0)]
    simp only [cond_f]
    have e1 : decide ((A + (2 ^ 256 - 1 - A)) % 2 ^ 256 = (2 ^ 256 - 1) % 2 ^ 256) = true := decide_eq_true (by rw [show A + (2 ^ 256 - 1 - A) = 2 ^ 256 - 1 by omega])
    have e2 : ((((A + (2 ^ 256 - 1 - A)) / 2 ^ 256 : Nat) : Int) == 0) = true := by rw [show A + (2 ^ 256 - 1 - A) = 2 ^ 256 - 1 by omega]; kernel_rfl
    have m1 : (2 ^ 256 - 1) % 2 ^ 256 = 2 ^ 256 - 1 := mod_self_of (by omega)
    have e3 : decide (((2 ^ 256 - 1) % 2 ^ 256 + 2 ^ 256 - A) % 2 ^ 256 = 2 ^ 256 - 1 - A) = true := decide_eq_true (by rw [m1, show 2 ^ 256 - 1 + 2 ^ 256 - A = (2 ^ 256 - 1 - A) + 2 ^ 256 by omega, Nat.add_mod_right, hc])
    have e4 : (((if (2 ^ 256 - 1) % 2 ^ 256 < A then 1 else 0 : Nat) : Int) == 0) = true := by rw [m1, if_neg (by omega)]; kernel_rfl
    have e5 : decide ((0 + 2 ^ 256 - A) % 2 ^ 256 = (2 ^ 256 - 1 - A + 1) % 2 ^ 256) = true := decide_eq_true (by rw [show 0 + 2 ^ 256 - A = 2 ^ 256 - 1 - A + 1 by omega])
    have e6 : (((if 0 < A then 1 else 0 : Nat) : Int) == 1) = true := by rw [if_pos (by omega)]; kernel_rfl
    have e7 : ((((2 ^ 256 - 1 - A + 1 % 2 ^ 256) / 2 ^ 256 : Nat) : Int) == 0) = true := by
      rw [show 1 % 2 ^ 256 = 1 from Nat.mod_eq_of_lt (by decide), show (2 ^ 256 - 1 - A + 1) / 2 ^ 256 = 0 from Nat.div_eq_of_lt (by omega)]; kernel_rfl
    rw [e1, e2, e3, e4, e5, e6, e7]
    simp only [cond_t]

/-- LimbsApart. -/
theorem f6.holds (A B : Nat) (hA : A < 2 ^ 256) (hB : B < 2 ^ 256) : f6.F 1000 (num A, num B) = some true := by
  have hA' := mod_self_of hA
  have hB' := mod_self_of hB
  simp only [f6.F, f6.T, f51.spec, f50.spec, f32.all, f34.all, f44.all, bind_s, eqL_num, Bool.and_true, hA', hB', cond_t]
  rcases Nat.lt_trichotomy A B with h | h | h
  · rw [decide_eq_false (show ¬ A = B by omega), if_pos h, if_neg (show ¬ B < A by omega)]
    simp only [cond_f]
    have e1 : decide ((A + 2 ^ 256 - B + (B + 2 ^ 256 - A)) % 2 ^ 256 = 0 % 2 ^ 256) = true := decide_eq_true (by rw [show A + 2 ^ 256 - B + (B + 2 ^ 256 - A) = 2 ^ 256 * 2 by omega])
    have c1 : cmp A B = -1 := by simp [cmp, h, show ¬ A = B by omega]
    have c2 : cmp B A = 1 := by simp [cmp, show ¬ B = A by omega, show ¬ B < A by omega]
    rw [e1, c1, c2]; show _ = _; kernel_rfl
  · subst h
    rw [decide_eq_true rfl, if_neg (Nat.lt_irrefl A)]
    simp only [cond_t]
    have e1 : decide ((A + 2 ^ 256 - A) % 2 ^ 256 = 0 % 2 ^ 256) = true := decide_eq_true (by rw [show A + 2 ^ 256 - A = 2 ^ 256 by omega])
    have c1 : cmp A A = 0 := by simp [cmp]
    rw [e1, c1]; show _ = _; kernel_rfl
  · rw [decide_eq_false (show ¬ A = B by omega), if_neg (show ¬ A < B by omega), if_pos h]
    simp only [cond_f]
    have e1 : decide ((A + 2 ^ 256 - B + (B + 2 ^ 256 - A)) % 2 ^ 256 = 0 % 2 ^ 256) = true := decide_eq_true (by rw [show A + 2 ^ 256 - B + (B + 2 ^ 256 - A) = 2 ^ 256 * 2 by omega])
    have c1 : cmp A B = 1 := by simp [cmp, show ¬ A = B by omega, show ¬ A < B by omega]
    have c2 : cmp B A = -1 := by simp [cmp, show ¬ B = A by omega, h]
    rw [e1, c1, c2]; show _ = _; kernel_rfl

theorem sub_mod_eq {x y z M : Nat} (hM : 0 < M) (h : (z + y) % M = x % M) : (x % M + M - y % M) % M = z % M := by
  have h1 := Nat.mod_lt y hM
  have h2 : (x % M + M - y % M + y) % M = (z + y) % M := by
    rw [h, show x % M + M - y % M + y = x % M + M + (y - y % M) by have := Nat.mod_le y M; omega]
    have h3 : y - y % M = M * (y / M) := by have := Nat.mod_add_div y M; omega
    rw [h3, Nat.add_mul_mod_self_left, Nat.add_mod_right, Nat.mod_mod]
  have h4 := Nat.mod_lt (x % M + M - y % M) hM
  have h5 := Nat.mod_lt z hM
  rw [Nat.add_mod, Nat.add_mod z] at h2
  have key : ∀ u, u < M → ((u + y % M) % M = u + y % M ∧ u + y % M < M) ∨ ((u + y % M) % M = u + y % M - M ∧ M ≤ u + y % M) := by
    intro u hu
    rcases Nat.lt_or_ge (u + y % M) M with h | h
    · exact .inl ⟨Nat.mod_eq_of_lt h, h⟩
    · exact .inr ⟨by rw [Nat.mod_eq_sub_mod h, Nat.mod_eq_of_lt (by omega)], h⟩
  rcases key _ h4 with a | a <;> rcases key _ h5 with b | b <;> omega

/-- LimbsSquares. -/
theorem f7.holds (A B : Nat) (hA : A < 2 ^ 256) (hB : B < 2 ^ 256) : f7.F 1000 (num A, num B) = some true := by
  have hA' := mod_self_of hA
  have hB' := mod_self_of hB
  simp only [f7.F, f7.T, f51.spec, f32.all, f34.all, f36.all, bind_s, eqL_num, Bool.and_true, hA', hB', cond_t, Option.some.injEq, decide_eq_true_eq]
  refine sub_mod_eq (Nat.two_pow_pos 256) ?_
  rw [Nat.add_mod, ← Nat.mul_mod, ← Nat.add_mod]
  generalize hD : A + 2 ^ 256 - B = D
  have h1 : D + B = A + 2 ^ 256 := by omega
  have h2 : (A + B) * D + B * B = A * A + 2 ^ 256 * (A + B) := by
    have e1 : (A + B) * D + B * B = A * D + B * (D + B) := by rw [Nat.add_mul, Nat.mul_add]; omega
    have e2 : A * D + A * B = A * (A + 2 ^ 256) := by rw [← Nat.mul_add, h1]
    rw [e1, h1, Nat.mul_add B, Nat.mul_comm B A, ← Nat.add_assoc, e2, Nat.mul_add, Nat.mul_add, Nat.mul_comm (2 ^ 256) A, Nat.mul_comm (2 ^ 256) B]
    omega
  rw [h2, Nat.add_mul_mod_self_left]

end Go.Proofs
