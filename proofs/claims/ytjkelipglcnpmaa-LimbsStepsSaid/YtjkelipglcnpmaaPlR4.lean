/- Plain laws: lemmas that hold with no condition but those that each states. -/
import Derived.Test.YtjkelipglcnpmaaPlR3
import Derived.Test.YtjkelipglcnpmaaF5
namespace Go.Proofs
open Go.VM

theorem f46.nat (K n : Nat) (h : n < 18446744073709551616) : f46.F K (n : Int) = some (num n) := f46.spec K n h

theorem f32.num (A B : Nat) (hA : A < 2 ^ 256) (hB : B < 2 ^ 256) : f32.F 1000 (Go.VM.num A, Go.VM.num B) = some (Go.VM.num (A + B), (((A + B) / 2 ^ 256 : Nat) : Int)) := by
  rw [f32.all, mod_self_of hA, mod_self_of hB]

theorem carry_one (S T : Nat) : (S % 2 ^ 256 + T % 2 ^ 256) / 2 ^ 256 ≤ 1 := by
  have h1 := Nat.mod_lt S (Nat.two_pow_pos 256)
  have h2 := Nat.mod_lt T (Nat.two_pow_pos 256)
  exact Nat.le_of_lt_succ (Nat.div_lt_of_lt_mul (by omega))

theorem carry_sum (S T : Nat) : (S + T) / 2 ^ 256 = S / 2 ^ 256 + (S % 2 ^ 256 + T % 2 ^ 256) / 2 ^ 256 + T / 2 ^ 256 := by
  have h1 := Nat.mod_add_div S (2 ^ 256)
  have h2 := Nat.mod_add_div T (2 ^ 256)
  have h3 : S + T = (S % 2 ^ 256 + T % 2 ^ 256) + 2 ^ 256 * (S / 2 ^ 256 + T / 2 ^ 256) := by rw [Nat.mul_add]; omega
  rw [h3, Nat.add_mul_div_left _ _ (Nat.two_pow_pos 256)]
  omega

/-- The sum so far, of two numbers' product, bit by bit. -/
theorem f5.round (A B i : Nat) (hA : A < 2 ^ 256) (hB : B < 2 ^ 256) (hi : i < 256) (rec : _ → _) :
    f5.s0 1000 rec (i, num A, num B, num (A * (B % 2 ^ i)), num (A * (B % 2 ^ i) / 2 ^ 256)) = rec (((i + 1 : Nat) : Int), num A, num B, num (A * (B % 2 ^ (i + 1))), num (A * (B % 2 ^ (i + 1)) / 2 ^ 256)) := by
  simp only [f5.s0, f5.s0t]
  have h1 : decide ((i : Int) < 256) = true := decide_eq_true (by omega)
  have w1 : IntKind.wrap .i64 ((i : Int) + 1) = ((i + 1 : Nat) : Int) := by rw [wrap_i _ (by omega) (by omega)]; omega
  have w2 : IntKind.wrap .i64 ((i : Int) - 256) = -((256 - i : Nat) : Int) := by rw [wrap_i _ (by omega) (by omega)]; omega
  have hb : B % 2 ^ (i + 1) = B % 2 ^ i + 2 ^ i * (B / 2 ^ i % 2) := by rw [Nat.pow_succ, Nat.mod_mul]
  rw [h1, w1, w2, cond_t, f40.all B i (by omega), mod_self_of hB, bind_s]
  rcases Nat.mod_two_eq_zero_or_one (B / 2 ^ i) with h | h
  · rw [h, show (((0 : Nat) : Int) == 0) = true from rfl, cond_t, hb, h]
    simp only [Nat.mul_zero, Nat.add_zero]
  · rw [h, show (((1 : Nat) : Int) == 0) = false from rfl, cond_f, hb, h, Nat.mul_one, f38.upA, bind_s, mod_self_of hA, f32.all, bind_s]
    generalize hS : A * (B % 2 ^ i) = S
    have e0 : A * (B % 2 ^ i + 2 ^ i) = S + A * 2 ^ i := by rw [Nat.mul_add, hS]
    have hc : (S % 2 ^ 256 + A * 2 ^ i % 2 ^ 256) / 2 ^ 256 ≤ 1 := carry_one _ _
    have hc' : (S % 2 ^ 256 + A * 2 ^ i % 2 ^ 256) / 2 ^ 256 < 18446744073709551616 := Nat.lt_of_le_of_lt hc (by decide)
    rw [f46.nat _ _ hc', bind_s, f32.all, bind_s, f38.downA, bind_s, f32.all, bind_s, e0, mod_self_of hA]
    have hq : A / 2 ^ (256 - i) = A * 2 ^ i / 2 ^ 256 := by
      have : (2 : Nat) ^ 256 = 2 ^ (256 - i) * 2 ^ i := by rw [← Nat.pow_add, show 256 - i + i = 256 by omega]
      rw [this, Nat.mul_div_mul_right _ _ (Nat.two_pow_pos _)]
    have hs : (S + A * 2 ^ i) / 2 ^ 256 = S / 2 ^ 256 + (S % 2 ^ 256 + A * 2 ^ i % 2 ^ 256) / 2 ^ 256 + A / 2 ^ (256 - i) := by
      rw [hq]; exact carry_sum _ _
    rw [hs]

theorem f5.holds (A B : Nat) (hA : A < 2 ^ 256) (hB : B < 2 ^ 256) : f5.F 1000 (num A, num B) = some true := by
  have key := iter_for (stp := f5.s0 1000) (N := 256) (fun i => ((i : Int), num A, num B, num (A * (B % 2 ^ i)), num (A * (B % 2 ^ i) / 2 ^ 256)))
    (y := some (num A, num B, num (A * B), num (A * B / 2 ^ 256))) (fun i hi rec => f5.round A B i hA hB hi rec) (fun rec => by
      simp only [f5.s0, f5.s0t]
      rw [mod_self_of hB, show decide (((256 : Nat) : Int) < 256) = false from rfl, cond_f]) (show 256 < 1000 by decide)
  have e0 : A * (B % 2 ^ 0) = 0 := by simp [Nat.mod_one]
  rw [e0, Nat.zero_div] at key
  have key' : iter (f5.s0 1000) 1000 (0, num A, num B, [0, 0, 0, 0], [0, 0, 0, 0]) = some (num A, num B, num (A * B), num (A * B / 2 ^ 256)) := key
  simp only [f5.F, f5.T, key', bind_s, f36.all, f51.spec, cond_t, mod_self_of hA, mod_self_of hB, eqL_num, Bool.and_true, decide_true]

end Go.Proofs
