/- Plain laws: lemmas that hold with no condition but those that each states. -/
import Derived.Test.YtjkelipglcnpmaaPlA
import Derived.Test.YtjkelipglcnpmaaF32
import Derived.Test.YtjkelipglcnpmaaF34
import Derived.Test.YtjkelipglcnpmaaF46
namespace Go.Proofs
open Go.VM

theorem lo_half (x : Nat) (h : x < 18446744073709551616) : bits .and .u64 (Int.fdiv (x : Int) (2 ^ 0)) 4294967295 = ((x % 4294967296 : Nat) : Int) := by
  rw [fdiv_nat, Nat.pow_zero, Nat.div_one, and_mask32 _ h]

theorem hi_half (x : Nat) (h : x < 18446744073709551616) : bits .and .u64 (Int.fdiv (x : Int) (2 ^ 32)) 4294967295 = ((x / 4294967296 : Nat) : Int) := by
  rw [fdiv_nat, and_mask32 _ (by omega)]
  congr 1
  omega

theorem words4 (w A : Nat) : words w 4 A = [((A / 2 ^ (w * 0) % 2 ^ w : Nat) : Int), ((A / 2 ^ (w * 1) % 2 ^ w : Nat) : Int), ((A / 2 ^ (w * 2) % 2 ^ w : Nat) : Int), ((A / 2 ^ (w * 3) % 2 ^ w : Nat) : Int)] := rfl
theorem words8 (w A : Nat) : words w 8 A = [((A / 2 ^ (w * 0) % 2 ^ w : Nat) : Int), ((A / 2 ^ (w * 1) % 2 ^ w : Nat) : Int), ((A / 2 ^ (w * 2) % 2 ^ w : Nat) : Int), ((A / 2 ^ (w * 3) % 2 ^ w : Nat) : Int),
    ((A / 2 ^ (w * 4) % 2 ^ w : Nat) : Int), ((A / 2 ^ (w * 5) % 2 ^ w : Nat) : Int), ((A / 2 ^ (w * 6) % 2 ^ w : Nat) : Int), ((A / 2 ^ (w * 7) % 2 ^ w : Nat) : Int)] := rfl

theorem f92.spec (K A : Nat) : f92.F K (num A) = some (halves A) := by
  simp only [f92.F, f92.T, num, halves, getD_words (show 0 < 4 by decide), getD_words (show 1 < 4 by decide), getD_words (show 2 < 4 by decide), getD_words (show 3 < 4 by decide)]
  rw [lo_half _ (Nat.mod_lt _ (by decide)), lo_half _ (Nat.mod_lt _ (by decide)), lo_half _ (Nat.mod_lt _ (by decide)), lo_half _ (Nat.mod_lt _ (by decide)),
    hi_half _ (Nat.mod_lt _ (by decide)), hi_half _ (Nat.mod_lt _ (by decide)), hi_half _ (Nat.mod_lt _ (by decide)), hi_half _ (Nat.mod_lt _ (by decide)), words8]
  simp only [Option.some.injEq, List.cons.injEq, and_true, Nat.reduceMul, Nat.reducePow]
  refine ⟨?_, ?_, ?_, ?_, ?_, ?_, ?_, ?_⟩ <;> congr 1 <;> omega

theorem or_halves (x y : Nat) (hx : x < 4294967296) (hy : y < 4294967296) : bits .or .u64 (IntKind.wrap .u64 ((x : Int) * 2 ^ 32)) (y : Int) = ((x * 4294967296 + y : Nat) : Int) := by
  rw [show (x : Int) * 2 ^ 32 = ((x * 4294967296 : Nat) : Int) by omega, wrap_nat, Nat.mod_eq_of_lt (by omega), bits_or_u64_nat _ _ (by omega) (by omega)]
  congr 1
  rw [show x * 4294967296 = x <<< 32 by rw [Nat.shiftLeft_eq], ← Nat.shiftLeft_add_eq_or_of_lt (show y < 2 ^ 32 from hy)]

theorem f93.spec (K A : Nat) : f93.F K (halves A) = some (num A) := by
  simp only [f93.F, f93.T, num, halves, getD_words (show 0 < 8 by decide), getD_words (show 1 < 8 by decide), getD_words (show 2 < 8 by decide), getD_words (show 3 < 8 by decide),
    getD_words (show 4 < 8 by decide), getD_words (show 5 < 8 by decide), getD_words (show 6 < 8 by decide), getD_words (show 7 < 8 by decide)]
  rw [or_halves _ _ (Nat.mod_lt _ (by decide)) (Nat.mod_lt _ (by decide)), or_halves _ _ (Nat.mod_lt _ (by decide)) (Nat.mod_lt _ (by decide)), or_halves _ _ (Nat.mod_lt _ (by decide)) (Nat.mod_lt _ (by decide)),
    or_halves _ _ (Nat.mod_lt _ (by decide)) (Nat.mod_lt _ (by decide)), words4]
  simp only [Option.some.injEq, List.cons.injEq, and_true, Nat.reduceMul, Nat.reducePow]
  refine ⟨?_, ?_, ?_, ?_⟩ <;> congr 1 <;> omega

theorem f46.spec (K n : Nat) (h : n < 18446744073709551616) : f46.F K (n : Int) = some (num n) := by
  simp only [f46.F, f46.T, num, words4, Option.some.injEq, List.cons.injEq, and_true, Nat.reduceMul, Nat.reducePow]
  refine ⟨?_, ?_, ?_, ?_⟩ <;> omega

theorem inR_nat {i n : Nat} (h : i < n) : decide ((0 : Int) ≤ (i : Int) ∧ (i : Int) < (n : Int)) = true := decide_eq_true ⟨by omega, by omega⟩

/-- What is carried to word i. -/
def carry (w A B c i : Nat) : Nat := (A % 2 ^ (w * i) + B % 2 ^ (w * i) + c) / 2 ^ (w * i)

theorem carry_zero (w A B c : Nat) : carry w A B c 0 = c := by simp [carry, Nat.mod_one]

theorem carry_le {w A B c i : Nat} (hc : c ≤ 1) : carry w A B c i ≤ 1 := by
  have hpos := Nat.two_pow_pos (w * i)
  have a1 := Nat.mod_lt A hpos
  have a2 := Nat.mod_lt B hpos
  exact Nat.le_of_lt_succ (Nat.div_lt_of_lt_mul (by omega))

theorem carry_succ (w A B c i : Nat) : (carry w A B c i + A / 2 ^ (w * i) % 2 ^ w + B / 2 ^ (w * i) % 2 ^ w) / 2 ^ w = carry w A B c (i + 1) ∧
    (carry w A B c i + A / 2 ^ (w * i) % 2 ^ w + B / 2 ^ (w * i) % 2 ^ w) % 2 ^ w = (A + B + c) / 2 ^ (w * i) % 2 ^ w := by
  obtain ⟨c1, c2⟩ := carry_step A B c (2 ^ (w * i)) (2 ^ w) (Nat.two_pow_pos _)
  unfold carry
  rw [show w * (i + 1) = w * i + w from Nat.mul_succ w i, Nat.pow_add]
  exact ⟨c1, c2⟩

/-- A round of adding halves. -/
theorem f32.round (K i : Nat) (hi : i < 8) (rec : _ → _) (f g : Nat → Nat) (c : Nat) (hf : f i < 4294967296) (hg : g i < 4294967296) (hc : c ≤ 1) (z : List Int) :
    f32.s0 K rec (c, i, z, vec 8 f, vec 8 g) = rec ((((c + f i + g i) / 4294967296 : Nat) : Int), ((i + 1 : Nat) : Int), z, vec 8 (fun j => if j = i then (c + f i + g i) % 4294967296 else f j), vec 8 g) := by
  simp only [f32.s0, f32.s0t]
  have h1 : decide ((i : Int) < 8) = true := decide_eq_true (by omega)
  have h2 : decide ((0 : Int) ≤ (i : Int) ∧ (i : Int) < 8) = true := inR_nat (n := 8) hi
  have e1 : IntKind.wrap .u64 ((c : Int) + IntKind.wrap .u64 ((f i : Int) + (g i : Int))) = ((c + f i + g i : Nat) : Int) := by
    rw [wrap_u _ (by rw [wrap_u _ (by omega) (by omega)]; omega) (by rw [wrap_u _ (by omega) (by omega)]; omega), wrap_u _ (by omega) (by omega)]; omega
  rw [h1, h2]
  simp only [cond_true, Int.toNat_natCast, getD_vec hi]
  rw [e1, and_mask32 _ (by omega), fdiv_nat, setD_vec hi, wrap_i _ (by omega) (by omega)]
  rfl

def mixed (w A B c i j : Nat) : Nat := if j < i then (A + B + c) / 2 ^ (w * j) % 2 ^ w else A / 2 ^ (w * j) % 2 ^ w

theorem mixed_zero (w n A B c : Nat) : vec n (mixed w A B c 0) = words w n A := vec_none _ _ _
theorem mixed_all (w n A B c : Nat) : vec n (mixed w A B c n) = words w n (A + B + c) := vec_all _ _ _
theorem mixed_step (w n A B c i : Nat) : vec n (fun j => if j = i then (A + B + c) / 2 ^ (w * i) % 2 ^ w else mixed w A B c i j) = vec n (mixed w A B c (i + 1)) := vec_step n i (fun j => (A + B + c) / 2 ^ (w * j) % 2 ^ w) _
theorem mixed_self (w A B c i : Nat) : mixed w A B c i i = A / 2 ^ (w * i) % 2 ^ w := by simp [mixed]

theorem f32.step (K A B i : Nat) (hi : i < 8) (rec : _ → _) (z : List Int) :
    f32.s0 K rec (carry 32 A B 0 i, i, z, vec 8 (mixed 32 A B 0 i), halves B) = rec (carry 32 A B 0 (i + 1), ((i + 1 : Nat) : Int), z, vec 8 (mixed 32 A B 0 (i + 1)), halves B) := by
  obtain ⟨c1, c2⟩ := carry_succ 32 A B 0 i
  have h := f32.round K i hi rec (mixed 32 A B 0 i) (fun j => B / 2 ^ (32 * j) % 2 ^ 32) (carry 32 A B 0 i) (by rw [mixed_self]; exact Nat.mod_lt _ (by decide)) (Nat.mod_lt _ (by decide)) (carry_le (by decide)) z
  rw [mixed_self] at h
  rw [show (4294967296 : Nat) = 2 ^ 32 from rfl, c1, c2, mixed_step] at h
  exact h

theorem f32.spec (K A B : Nat) (hK : 8 < K) : f32.F K (num A, num B) = some (num (A + B), (carry 32 A B 0 8 : Int)) := by
  simp only [f32.F, f32.T, f92.spec, Option.bind_some]
  have key := iter_for (stp := f32.s0 K) (N := 8) (fun i => ((carry 32 A B 0 i : Int), (i : Int), ([0, 0, 0, 0] : List Int), vec 8 (mixed 32 A B 0 i), halves B))
      (y := some ((carry 32 A B 0 8 : Int), ([0, 0, 0, 0] : List Int), halves (A + B))) (fun i hi rec => f32.step K A B i hi rec _) (fun rec => by
        simp only [f32.s0, f32.s0t, mixed_all]
        rfl) hK
  simp only [carry_zero, mixed_zero] at key
  have key' : iter (f32.s0 K) K (0, 0, [0, 0, 0, 0], halves A, halves B) = some ((carry 32 A B 0 8 : Int), ([0, 0, 0, 0] : List Int), halves (A + B)) := key
  rw [key']
  simp only [Option.bind_some, f93.spec]

end Go.Proofs
