/- Plain laws: lemmas that hold with no condition but those that each states. -/
import Derived.Test.YtjkelipglcnpmaaPlS
import Derived.Test.YtjkelipglcnpmaaF51
namespace Go.Proofs
open Go.VM

theorem num_mod (A : Nat) : num (A % 2 ^ 256) = num A := words_mod 64 4 A

theorem eqL_num (A B : Nat) : eqL 4 (num A) (num B) = decide (A % 2 ^ 256 = B % 2 ^ 256) := by
  rw [← num_mod A, ← num_mod B]
  exact eqL_words (w := 64) (n := 4) (Nat.mod_lt _ (Nat.two_pow_pos 256)) (Nat.mod_lt _ (Nat.two_pow_pos 256))

theorem xor_all (x : Nat) (h : x < 18446744073709551616) : bits .xor .u64 18446744073709551615 (x : Int) = ((18446744073709551615 - x : Nat) : Int) := by
  rw [show (18446744073709551615 : Int) = ((18446744073709551615 : Nat) : Int) from rfl, bits_xor_u64_nat _ _ (by decide) h]
  congr 1
  have h1 := BitVec.xor_allOnes (x := BitVec.ofNat 64 x)
  have h2 := congrArg BitVec.toNat h1
  rw [BitVec.toNat_xor, BitVec.toNat_not, BitVec.toNat_allOnes, BitVec.toNat_ofNat, Nat.mod_eq_of_lt (by omega), Nat.xor_comm] at h2
  rw [show (18446744073709551615 : Nat) = 2 ^ 64 - 1 from rfl, h2]

theorem f48.spec (K A : Nat) (hA : A < 2 ^ 256) : f48.F K (num A) = some (num (2 ^ 256 - 1 - A)) := by
  have hw := fun j (hj : j < 4) => comp_word (w := 64) (n := 4) (B := A) (j := j) hA hj
  simp only [f48.F, f48.T, num, words4, setD, List.getD_cons_zero, List.getD_cons_succ]
  rw [xor_all _ (Nat.mod_lt _ (by decide)), xor_all _ (Nat.mod_lt _ (by decide)), xor_all _ (Nat.mod_lt _ (by decide)), xor_all _ (Nat.mod_lt _ (by decide))]
  rw [show (64 * 4 : Nat) = 256 from rfl] at hw
  rw [hw 0 (by decide), hw 1 (by decide), hw 2 (by decide), hw 3 (by decide)]

theorem f50.spec (K : Nat) : f50.F K () = some (num 0) := rfl
theorem f49.spec (K : Nat) : f49.F K () = some (num (2 ^ 256 - 1)) := by
  simp only [f49.F, f49.T, f50.spec, Option.bind_some]
  rw [f48.spec K 0 (by decide)]; rfl
theorem f51.spec : f51.F 1000 () = some true := by kernel_rfl

/-- By any number: sums, differences, products. -/
theorem f32.all (A B : Nat) : f32.F 1000 (num A, num B) = some (num (A + B), (((A % 2 ^ 256 + B % 2 ^ 256) / 2 ^ 256 : Nat) : Int)) := by
  rw [f32.spec 1000 A B (by decide)]
  simp only [carry, Nat.add_zero]
theorem f34.all (A B : Nat) : f34.F 1000 (num A, num B) = some (num (A % 2 ^ 256 + 2 ^ 256 - B % 2 ^ 256), ((if A % 2 ^ 256 < B % 2 ^ 256 then 1 else 0 : Nat) : Int)) := by
  rw [← num_mod A, ← num_mod B, f34.spec 1000 _ _ (Nat.mod_lt _ (Nat.two_pow_pos 256)) (Nat.mod_lt _ (Nat.two_pow_pos 256)) (by decide)]
theorem f36.all (A B : Nat) : f36.F 1000 (num A, num B) = some (num (A % 2 ^ 256 * (B % 2 ^ 256)), num (A % 2 ^ 256 * (B % 2 ^ 256) / 2 ^ 256)) := by
  rw [← num_mod A, ← num_mod B, f36.spec 1000 _ _ (Nat.mod_lt _ (Nat.two_pow_pos 256)) (Nat.mod_lt _ (Nat.two_pow_pos 256)) (by decide)]
theorem f44.all (A B : Nat) : f44.F 1000 (num A, num B) = some (cmp (A % 2 ^ 256) (B % 2 ^ 256)) := by
  rw [← num_mod A, ← num_mod B, f44.spec 1000 _ _ (Nat.mod_lt _ (Nat.two_pow_pos 256)) (Nat.mod_lt _ (Nat.two_pow_pos 256)) (by decide)]
theorem f46.one (K : Nat) : f46.F K 1 = some (num 1) := f46.spec K 1 (by decide)

theorem mod_self_of {A : Nat} (hA : A < 2 ^ 256) : A % 2 ^ 256 = A := Nat.mod_eq_of_lt hA

end Go.Proofs
