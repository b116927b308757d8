/- Plain laws: lemmas that hold with no condition but those that each states. -/
import Derived.Test.YtjkelipglcnpmaaPlL
import Derived.Test.YtjkelipglcnpmaaF40
import Derived.Test.YtjkelipglcnpmaaF42
import Derived.Test.YtjkelipglcnpmaaF44
namespace Go.Proofs
open Go.VM

/-! ### Sub -/

theorem comp_word {w n B j : Nat} (hB : B < 2 ^ (w * n)) (hj : j < n) : (2 ^ (w * n) - 1 - B) / 2 ^ (w * j) % 2 ^ w = 2 ^ w - 1 - B / 2 ^ (w * j) % 2 ^ w := by
  have e1 : 2 ^ (w * n) = 2 ^ (w * j) * (2 ^ w * 2 ^ (w * (n - j - 1))) := by
    rw [← Nat.pow_add, ← Nat.pow_add]; congr 1
    rw [← Nat.add_assoc, ← Nat.mul_succ, ← Nat.mul_add]; congr 1; omega
  have hq : 0 < 2 ^ w := Nat.two_pow_pos w
  have hp : 0 < 2 ^ (w * j) := Nat.two_pow_pos _
  generalize 2 ^ (w * j) = p at *
  generalize 2 ^ (w * (n - j - 1)) = m at *
  generalize 2 ^ w = q at *
  rw [e1] at hB ⊢
  rw [show p * (q * m) - 1 - B = p * (q * m) - (B + 1) by omega, Nat.mul_sub_div _ _ _ hB]
  have hy : B / p < q * m := Nat.div_lt_of_lt_mul hB
  generalize B / p = y at *
  have h1 := Nat.div_add_mod y q
  have h2 : y / q < m := Nat.div_lt_of_lt_mul hy
  have h3 := Nat.mod_lt y hq
  have h4 : q * m = q * (m - 1 - y / q) + q * (y / q) + q := by
    rw [← Nat.mul_add, ← Nat.mul_succ]; congr 1; omega
  rw [show q * m - (y + 1) = (q - 1 - y % q) + q * (m - 1 - y / q) by omega, Nat.add_mul_mod_self_left]
  exact Nat.mod_eq_of_lt (by omega)

theorem f34.round (K i : Nat) (hi : i < 8) (rec : _ → _) (f g : Nat → Nat) (c : Nat) (hf : f i < 4294967296) (hg : g i < 4294967296) (hc : c ≤ 1) (z : List Int) :
    f34.s0 K rec (c, i, z, vec 8 f, vec 8 g) = rec ((((c + f i + (4294967295 - g i)) / 4294967296 : Nat) : Int), ((i + 1 : Nat) : Int), z, vec 8 (fun j => if j = i then (c + f i + (4294967295 - g i)) % 4294967296 else f j), vec 8 g) := by
  simp only [f34.s0, f34.s0t]
  have h1 : decide ((i : Int) < 8) = true := decide_eq_true (by omega)
  have h2 : decide ((0 : Int) ≤ (i : Int) ∧ (i : Int) < 8) = true := inR_nat (n := 8) hi
  have e0 : IntKind.wrap .u64 (4294967295 - (g i : Int)) = ((4294967295 - g i : Nat) : Int) := by
    rw [wrap_u _ (by omega) (by omega)]; omega
  have e1 : IntKind.wrap .u64 ((c : Int) + IntKind.wrap .u64 ((f i : Int) + IntKind.wrap .u64 (4294967295 - (g i : Int)))) = ((c + f i + (4294967295 - g i) : Nat) : Int) := by
    rw [e0, wrap_u _ (by rw [wrap_u _ (by omega) (by omega)]; omega) (by rw [wrap_u _ (by omega) (by omega)]; omega), wrap_u _ (by omega) (by omega)]; omega
  rw [h1, h2]
  simp only [cond_true, Int.toNat_natCast, getD_vec hi]
  rw [e1, and_mask32 _ (by omega), fdiv_nat, setD_vec hi, wrap_i _ (by omega) (by omega)]
  rfl

theorem f34.step (K A B i : Nat) (hB : B < 2 ^ 256) (hi : i < 8) (rec : _ → _) (z : List Int) :
    f34.s0 K rec (carry 32 A (2 ^ 256 - 1 - B) 1 i, i, z, vec 8 (mixed 32 A (2 ^ 256 - 1 - B) 1 i), halves B) = rec (carry 32 A (2 ^ 256 - 1 - B) 1 (i + 1), ((i + 1 : Nat) : Int), z, vec 8 (mixed 32 A (2 ^ 256 - 1 - B) 1 (i + 1)), halves B) := by
  obtain ⟨c1, c2⟩ := carry_succ 32 A (2 ^ 256 - 1 - B) 1 i
  have h := f34.round K i hi rec (mixed 32 A (2 ^ 256 - 1 - B) 1 i) (fun j => B / 2 ^ (32 * j) % 2 ^ 32) (carry 32 A (2 ^ 256 - 1 - B) 1 i) (by rw [mixed_self]; exact Nat.mod_lt _ (by decide)) (Nat.mod_lt _ (by decide)) (carry_le (by decide)) z
  rw [mixed_self] at h
  have hw := comp_word (w := 32) (n := 8) (B := B) (j := i) hB hi
  rw [show (32 * 8 : Nat) = 256 from rfl] at hw
  rw [show (4294967295 : Nat) = 2 ^ 32 - 1 from rfl, ← hw, show (4294967296 : Nat) = 2 ^ 32 from rfl, c1, c2, mixed_step] at h
  exact h

theorem carry_all {A B : Nat} (hA : A < 2 ^ 256) (hB : B < 2 ^ 256) (c : Nat) : carry 32 A B c 8 = (A + B + c) / 2 ^ 256 := by
  unfold carry
  rw [show (32 * 8 : Nat) = 256 from rfl, Nat.mod_eq_of_lt hA, Nat.mod_eq_of_lt hB]

theorem f34.spec (K A B : Nat) (hA : A < 2 ^ 256) (hB : B < 2 ^ 256) (hK : 8 < K) : f34.F K (num A, num B) = some (num (A + 2 ^ 256 - B), ((if A < B then 1 else 0 : Nat) : Int)) := by
  simp only [f34.F, f34.T, f92.spec, Option.bind_some]
  have key := iter_for (stp := f34.s0 K) (N := 8) (fun i => ((carry 32 A (2 ^ 256 - 1 - B) 1 i : Int), (i : Int), ([0, 0, 0, 0] : List Int), vec 8 (mixed 32 A (2 ^ 256 - 1 - B) 1 i), halves B))
      (y := some ((carry 32 A (2 ^ 256 - 1 - B) 1 8 : Int), ([0, 0, 0, 0] : List Int), halves (A + (2 ^ 256 - 1 - B) + 1))) (fun i hi rec => f34.step K A B i hB hi rec _) (fun rec => by
        simp only [f34.s0, f34.s0t, mixed_all]
        rfl) hK
  simp only [carry_zero, mixed_zero] at key
  have key' : iter (f34.s0 K) K (1, 0, [0, 0, 0, 0], halves A, halves B) = some ((carry 32 A (2 ^ 256 - 1 - B) 1 8 : Int), ([0, 0, 0, 0] : List Int), halves (A + (2 ^ 256 - 1 - B) + 1)) := key
  rw [key']
  simp only [Option.bind_some, f93.spec]
  rw [show A + (2 ^ 256 - 1 - B) + 1 = A + 2 ^ 256 - B by omega, carry_all hA (by omega)]
  have e : IntKind.wrap .u64 (1 - ((((A + (2 ^ 256 - 1 - B) + 1) / 2 ^ 256 : Nat)) : Int)) = ((if A < B then 1 else 0 : Nat) : Int) := by
    split
    · rw [show (A + (2 ^ 256 - 1 - B) + 1) / 2 ^ 256 = 0 by omega]; rfl
    · rw [show (A + (2 ^ 256 - 1 - B) + 1) / 2 ^ 256 = 1 by omega]; rfl
  rw [e]

/-! ### Bit -/

theorem shr_nat (x k : Nat) (h : k ≤ 64) : shiftI .shr .u64 (x : Int) (k : Int) = ((x / 2 ^ k : Nat) : Int) := by
  show Int.fdiv (x : Int) (2 ^ (min (Int.toNat (k : Int)) 64)) = _
  rw [Int.toNat_natCast, Nat.min_eq_left h, fdiv_nat]

theorem half_bit (A i : Nat) : A / 2 ^ (32 * (i / 32)) % 2 ^ 32 / 2 ^ (i % 32) % 2 = A / 2 ^ i % 2 := by
  have h : (2 : Nat) ^ 32 = 2 ^ (i % 32) * (2 * 2 ^ (31 - i % 32)) := by
    rw [← Nat.pow_succ', ← Nat.pow_add]; congr 1; omega
  rw [h, Nat.mod_mul_right_div_self, Nat.mod_mul_right_mod, Nat.div_div_eq_div_mul, ← Nat.pow_add]
  congr 3; omega

theorem f40.spec (K A i : Nat) (hi : i < 9223372036854775808) (hA : A < 2 ^ 256) : f40.F K (num A, (i : Int)) = some ((A / 2 ^ i % 2 : Nat) : Int) := by
  simp only [f40.F, f40.T]
  by_cases h : i < 256
  · have h1 : decide (IntKind.wrap .u64 (i : Int) ≥ 256) = false := decide_eq_false (by rw [wrap_u _ (by omega) (by omega)]; omega)
    have h2 : IntKind.wrap .i64 (Int.tdiv (i : Int) 32) = ((i / 32 : Nat) : Int) := by
      rw [show (32 : Int) = ((32 : Nat) : Int) from rfl, tdiv_nat, wrap_i _ (by omega) (by omega)]
    have h3 : Int.tmod (i : Int) 32 = ((i % 32 : Nat) : Int) := tmod_nat i 32
    have h4 : decide ((0 : Int) ≤ ((i / 32 : Nat) : Int) ∧ ((i / 32 : Nat) : Int) < 8) = true := inR_nat (n := 8) (by omega)
    have h5 : decide ((0 : Int) ≤ ((i % 32 : Nat) : Int)) = true := decide_eq_true (by omega)
    rw [h1]
    simp only [cond_false, f92.spec, Option.bind_some]
    rw [h2, h3, h4, h5]
    simp only [cond_true, Int.toNat_natCast]
    rw [getD_words (show i / 32 < 8 by omega), shr_nat _ _ (by omega), show (1 : Int) = ((1 : Nat) : Int) from rfl, bits_and_u64_nat _ _ (by
      have : A / 2 ^ (32 * (i / 32)) % 2 ^ 32 < 2 ^ 32 := Nat.mod_lt _ (by decide)
      have h6 := Nat.div_le_self (A / 2 ^ (32 * (i / 32)) % 2 ^ 32) (2 ^ (i % 32))
      omega) (by decide), Nat.and_one_is_mod, half_bit]
  · have h1 : decide (IntKind.wrap .u64 (i : Int) ≥ 256) = true := decide_eq_true (by rw [wrap_u _ (by omega) (by omega)]; omega)
    rw [h1]
    simp only [cond_true]
    rw [Nat.div_eq_of_lt (Nat.lt_of_lt_of_le hA (Nat.pow_le_pow_right (by decide) (by omega)))]
    rfl

theorem f40.neg (K A : Nat) (i : Int) (hi : i < 0) (hl : -9223372036854775808 ≤ i) : f40.F K (num A, i) = some 0 := by
  simp only [f40.F, f40.T]
  have h1 : decide (IntKind.wrap .u64 i ≥ 256) = true := decide_eq_true (by
    simp only [IntKind.wrap, IntKind.bits, IntKind.signed, Bool.false_and, Bool.false_eq_true, if_false]
    omega)
  rw [h1]; rfl

end Go.Proofs
