/- Plain laws: lemmas that hold with no condition but those that each states. -/
import Derived.Test.YtjkelipglcnpmaaPlMul
import Derived.Test.YtjkelipglcnpmaaF38
namespace Go.Proofs
open Go.VM

/-! ### Shift -/

theorem no_carry {x a c : Nat} (ha : a < 32) (hX : x < 2 ^ a) (hv : c * 2 ^ a < 2 ^ 32) : x + c * 2 ^ a < 2 ^ 32 ∧ x ||| (c * 2 ^ a) = x + c * 2 ^ a := by
  constructor
  · have e : 2 ^ 32 = 2 ^ (32 - a) * 2 ^ a := by rw [← Nat.pow_add]; congr 1; omega
    rw [e] at hv ⊢
    have : c < 2 ^ (32 - a) := Nat.lt_of_mul_lt_mul_right hv
    have h2 : (c + 1) * 2 ^ a ≤ 2 ^ (32 - a) * 2 ^ a := Nat.mul_le_mul_right _ this
    rw [Nat.add_mul] at h2
    omega
  · rw [Nat.or_comm, ← Nat.shiftLeft_eq, ← Nat.shiftLeft_add_eq_or_of_lt hX, Nat.add_comm]

/-- A part put at word t: what the row of the words from 8 to 15 is behind it. -/
theorem put_in (X t a c : Nat) (ha : a < 32) (hX : X / 2 ^ (32 * t) < 2 ^ a) (hv : c * 2 ^ a < 2 ^ 32) (h1 : 8 ≤ t) (h2 : t < 16) :
    vec 8 (fun j => if j = t - 8 then (X / 2 ^ 256 / 2 ^ (32 * (t - 8)) % 2 ^ 32) ||| (c * 2 ^ a) else X / 2 ^ 256 / 2 ^ (32 * j) % 2 ^ 32) = halves ((X + c * 2 ^ a * 2 ^ (32 * t)) / 2 ^ 256) := by
  obtain ⟨g1, g2⟩ := no_carry ha hX hv
  have e1 : X / 2 ^ 256 / 2 ^ (32 * (t - 8)) = X / 2 ^ (32 * t) := by
    rw [Nat.div_div_eq_div_mul, ← Nat.pow_add]; congr 2; omega
  have e2 : X / 2 ^ (32 * t) % 2 ^ 32 = X / 2 ^ (32 * t) := Nat.mod_eq_of_lt (Nat.lt_of_le_of_lt (Nat.le_add_right _ _) g1)
  rw [e1, e2, g2, set_words 32 8 (X / 2 ^ 256) (t - 8) _ g1]
  congr 1
  have e3 : (X + c * 2 ^ a * 2 ^ (32 * t)) / 2 ^ 256 = X / 2 ^ 256 + c * 2 ^ a * 2 ^ (32 * (t - 8)) := by
    rw [show 32 * t = 32 * (t - 8) + 256 by omega, Nat.pow_add _ _ 256, ← Nat.mul_assoc, Nat.add_mul_div_right _ _ (Nat.two_pow_pos 256)]
  rw [e3]
  conv => rhs; rw [split_word 32 (X / 2 ^ 256) (t - 8)]
  rw [e1, e2]
  generalize X / 2 ^ (32 * t) = x
  generalize c * 2 ^ a = v
  generalize X / 2 ^ 256 / 2 ^ (32 * (t - 8 + 1)) = H
  generalize X / 2 ^ 256 % 2 ^ (32 * (t - 8)) = l
  rw [Nat.mul_comm v]
  simp only [Nat.mul_add]
  omega

theorem put_low (X t a c : Nat) (ha : a < 32) (hX : X / 2 ^ (32 * t) < 2 ^ a) (hv : c * 2 ^ a < 2 ^ 32) (h1 : t < 8) : halves (X / 2 ^ 256) = halves ((X + c * 2 ^ a * 2 ^ (32 * t)) / 2 ^ 256) := by
  obtain ⟨g1, _⟩ := no_carry ha hX hv
  have h2 : (X + c * 2 ^ a * 2 ^ (32 * t)) / 2 ^ (32 * t) < 2 ^ 32 := by rw [Nat.add_mul_div_right _ _ (Nat.two_pow_pos _)]; exact g1
  have h3 : X + c * 2 ^ a * 2 ^ (32 * t) < 2 ^ 32 * 2 ^ (32 * t) := (Nat.div_lt_iff_lt_mul (Nat.two_pow_pos _)).1 h2
  have h4 : 2 ^ 32 * 2 ^ (32 * t) ≤ 2 ^ 256 := by rw [← Nat.pow_add]; exact Nat.pow_le_pow_right (by decide) (by omega)
  rw [Nat.div_eq_of_lt (by omega), Nat.div_eq_of_lt (by omega)]

theorem put_high (X t v : Nat) (h1 : 16 ≤ t) : halves (X / 2 ^ 256) = halves ((X + v * 2 ^ (32 * t)) / 2 ^ 256) := by
  have e : (X + v * 2 ^ (32 * t)) / 2 ^ 256 = X / 2 ^ 256 + v * 2 ^ (32 * (t - 16)) * 2 ^ 256 := by
    rw [show 32 * t = 32 * (t - 16) + 256 + 256 by omega, Nat.pow_add _ _ 256, Nat.pow_add _ _ 256, ← Nat.mul_assoc, ← Nat.mul_assoc, Nat.add_mul_div_right _ _ (Nat.two_pow_pos 256)]
  have h := words_mod 32 8 (X / 2 ^ 256)
  have h' := words_mod 32 8 (X / 2 ^ 256 + v * 2 ^ (32 * (t - 16)) * 2 ^ 256)
  rw [show (32 * 8 : Nat) = 256 from rfl, Nat.add_mul_mod_self_right] at h'
  rw [show (32 * 8 : Nat) = 256 from rfl] at h
  rw [e, halves, halves, ← h, h']

/-- A round of the inner loop. -/
theorem f38.put (K F X t a c k i t0 : Nat) (hk : k < 2) (ht : t = t0 + k) (ht' : t0 < 40) (ha : a < 32) (hX : X / 2 ^ (32 * t) < 2 ^ a) (hv : c * 2 ^ a < 2 ^ 32) (ps : List Int) (hp : ps.getD k 0 = ((c * 2 ^ a : Nat) : Int)) (x z : List Int) (rec : _ → _) :
    f38.s2 K rec (F, (t0 : Int) - 8, x, i, ps, k, z, halves (X / 2 ^ 256)) = rec ((F : Int), (t0 : Int) - 8, x, (i : Int), ps, ((k + 1 : Nat) : Int), z, halves ((X + c * 2 ^ a * 2 ^ (32 * t)) / 2 ^ 256)) := by
  simp only [f38.s2, f38.s2t]
  have h1 : decide ((k : Int) < 2) = true := decide_eq_true (by omega)
  have h2 : decide ((0 : Int) ≤ (k : Int) ∧ (k : Int) < 2) = true := inR_nat (n := 2) hk
  have h3 : IntKind.wrap .i64 ((t0 : Int) - 8 + (k : Int)) = (t : Int) - 8 := by rw [wrap_i _ (by omega) (by omega)]; omega
  have h4 : IntKind.wrap .i64 ((k : Int) + 1) = ((k + 1 : Nat) : Int) := by rw [wrap_i _ (by omega) (by omega)]; omega
  rw [h1, h2, h3, h4]
  simp only [cond_true]
  by_cases hl : t < 8
  · rw [decide_eq_false (by omega : ¬ ((t : Int) - 8 ≥ 0))]
    simp only [cond_false]
    rw [put_low X t a c ha hX hv hl]
  · rw [decide_eq_true (by omega : ((t : Int) - 8 ≥ 0))]
    simp only [cond_true]
    by_cases hh : t < 16
    · have h5 : (t : Int) - 8 = ((t - 8 : Nat) : Int) := by omega
      rw [decide_eq_true (by omega : ((t : Int) - 8 < 8)), h5]
      have h6 : decide ((0 : Int) ≤ ((t - 8 : Nat) : Int) ∧ ((t - 8 : Nat) : Int) < 8) = true := inR_nat (n := 8) (by omega)
      rw [h6]
      simp only [cond_true, Int.toNat_natCast]
      rw [getD_words (show t - 8 < 8 by omega), hp, bits_or_u64_nat _ _ (Nat.lt_trans (Nat.mod_lt _ (by decide)) (by decide)) (by omega)]
      have h7 : halves (X / 2 ^ 256) = vec 8 (fun j => X / 2 ^ 256 / 2 ^ (32 * j) % 2 ^ 32) := rfl
      rw [h7, setD_vec (show t - 8 < 8 by omega), put_in X t a c ha hX hv (by omega) hh]
    · rw [decide_eq_false (by omega : ¬ ((t : Int) - 8 < 8))]
      simp only [cond_false]
      rw [put_high X t (c * 2 ^ a) (by omega)]

theorem split_shift (h u : Nat) (hu : u < 32) : h * 2 ^ u % 2 ^ 32 = h % 2 ^ (32 - u) * 2 ^ u := by
  have e : 2 ^ 32 = 2 ^ (32 - u) * 2 ^ u := by rw [← Nat.pow_add]; congr 1; omega
  rw [e, Nat.mul_mod_mul_right]

theorem parts_sum (M T q v : Nat) : M + v % q * T + v / q * 1 * (T * q) = M + v * T := by
  have h := Nat.mod_add_div v q
  have h2 : v % q * T + v / q * (T * q) = v * T := by
    conv => rhs; rw [← h]
    rw [Nat.add_mul, Nat.mul_comm q, Nat.mul_assoc, Nat.mul_comm q]
  rw [Nat.mul_one, Nat.add_assoc, h2]

theorem parts_mul (L a d u s : Nat) : (L + a * d) * (u * s) = L * (u * s) + d * u * (a * s) := by
  rw [Nat.add_mul]
  simp only [Nat.mul_comm, Nat.mul_left_comm]

/-- A round of the outer loop. -/
theorem f38.round (K A F i : Nat) (hF : F < 512) (hi : i < 8) (hK : 2 < K) (rec : _ → _) (z : List Int) :
    f38.s0 K rec (F, halves A, i, z, halves (A % 2 ^ (32 * i) * 2 ^ F / 2 ^ 256)) = rec ((F : Int), halves A, ((i + 1 : Nat) : Int), z, halves (A % 2 ^ (32 * (i + 1)) * 2 ^ F / 2 ^ 256)) := by
  simp only [f38.s0, f38.s0t]
  have h1 : decide ((i : Int) < 8) = true := decide_eq_true (by omega)
  have h2 : decide ((0 : Int) ≤ (i : Int) ∧ (i : Int) < 8) = true := inR_nat (n := 8) hi
  have e1 : IntKind.wrap .i64 (IntKind.wrap .i64 ((i : Int) * 32) + (F : Int)) = ((32 * i + F : Nat) : Int) := by
    rw [wrap_i ((i : Int) * 32) (by omega) (by omega), wrap_i _ (by omega) (by omega)]; omega
  have e2 : Int.tmod ((32 * i + F : Nat) : Int) 32 = ((F % 32 : Nat) : Int) := by
    rw [show (32 : Int) = ((32 : Nat) : Int) from rfl, tmod_nat]; congr 1; omega
  have e3 : IntKind.wrap .i64 (IntKind.wrap .i64 (Int.tdiv ((32 * i + F : Nat) : Int) 32) - 8) = ((i + F / 32 : Nat) : Int) - 8 := by
    rw [show (32 : Int) = ((32 : Nat) : Int) from rfl, tdiv_nat, wrap_i ((_ : Nat) : Int) (by omega) (by omega), wrap_i _ (by omega) (by omega)]
    omega
  have h3 : decide ((0 : Int) ≤ ((F % 32 : Nat) : Int)) = true := decide_eq_true (by omega)
  rw [h1, h2, e1, e2, e3, h3]
  simp only [cond_true, Int.toNat_natCast]
  rw [getD_words hi]
  have hd : A / 2 ^ (32 * i) % 2 ^ 32 < 2 ^ 32 := Nat.mod_lt _ (by decide)
  have hu : F % 32 < 32 := Nat.mod_lt _ (by decide)
  have hmod : A % 2 ^ (32 * (i + 1)) = A % 2 ^ (32 * i) + 2 ^ (32 * i) * (A / 2 ^ (32 * i) % 2 ^ 32) := by
    rw [show 32 * (i + 1) = 32 * i + 32 from Nat.mul_succ _ _, Nat.pow_add _ _ 32, Nat.mod_mul]
  have hlow : A % 2 ^ (32 * i) < 2 ^ (32 * i) := Nat.mod_lt _ (Nat.two_pow_pos _)
  rw [hmod]
  generalize A % 2 ^ (32 * i) = L at *
  generalize A / 2 ^ (32 * i) % 2 ^ 32 = d at *
  have hF2 : 2 ^ F = 2 ^ (F % 32) * 2 ^ (32 * (F / 32)) := by rw [← Nat.pow_add]; congr 1; omega
  have ht : 2 ^ (32 * (i + F / 32)) = 2 ^ (32 * i) * 2 ^ (32 * (F / 32)) := by rw [Nat.mul_add, Nat.pow_add]
  have hp1 : 2 ^ (F % 32) ≤ 2 ^ 31 := Nat.pow_le_pow_right (by decide) (by omega)
  have hdu : d * 2 ^ (F % 32) < 2 ^ 63 := by
    calc d * 2 ^ (F % 32) ≤ d * 2 ^ 31 := Nat.mul_le_mul_left _ hp1
      _ < 2 ^ 32 * 2 ^ 31 := Nat.mul_lt_mul_of_pos_right hd (by decide)
      _ = 2 ^ 63 := by decide
  have e4 : shiftI .shl .u64 (d : Int) ((F % 32 : Nat) : Int) = ((d * 2 ^ (F % 32) : Nat) : Int) := by
    show IntKind.wrap .u64 ((d : Int) * 2 ^ (min (Int.toNat ((F % 32 : Nat) : Int)) 64)) = _
    rw [Int.toNat_natCast, Nat.min_eq_left (by omega), show (d : Int) * 2 ^ (F % 32) = ((d * 2 ^ (F % 32) : Nat) : Int) by simp, wrap_nat, Nat.mod_eq_of_lt (by omega)]
  rw [e4, and_mask32 _ (by omega), fdiv_nat]
  have hinv : L * 2 ^ F / 2 ^ (32 * (i + F / 32)) < 2 ^ (F % 32) := by
    rw [hF2, ht, ← Nat.mul_assoc, Nat.mul_div_mul_right _ _ (Nat.two_pow_pos _)]
    refine Nat.div_lt_of_lt_mul ?_
    exact Nat.mul_lt_mul_of_pos_right hlow (Nat.two_pow_pos _)
  have hlo := split_shift d (F % 32) hu
  obtain ⟨k, rfl⟩ : ∃ k, K = k + 3 := ⟨K - 3, by omega⟩
  have r0 := f38.put (k + 3) F (L * 2 ^ F) (i + F / 32) (F % 32) (d % 2 ^ (32 - F % 32)) 0 i (i + F / 32) (by decide) rfl (by omega) hu hinv (by rw [← hlo]; exact Nat.mod_lt _ (by decide))
    [((d * 2 ^ (F % 32) % 4294967296 : Nat) : Int), ((d * 2 ^ (F % 32) / 2 ^ 32 : Nat) : Int)] (by rw [← hlo]; rfl) (halves A) z (iter (f38.s2 (k + 3)) (k + 2))
  rw [← hlo] at r0
  have hX1 : (L * 2 ^ F + d * 2 ^ (F % 32) % 2 ^ 32 * 2 ^ (32 * (i + F / 32))) / 2 ^ (32 * (i + F / 32 + 1)) < 2 ^ 0 := by
    rw [Nat.pow_zero, Nat.lt_one_iff]
    refine Nat.div_eq_of_lt ?_
    obtain ⟨g1, _⟩ := no_carry hu hinv (show d % 2 ^ (32 - F % 32) * 2 ^ (F % 32) < 2 ^ 32 by rw [← hlo]; exact Nat.mod_lt _ (by decide))
    rw [← hlo] at g1
    rw [show 32 * (i + F / 32 + 1) = 32 * (i + F / 32) + 32 from Nat.mul_succ _ _, Nat.pow_add, Nat.mul_comm (2 ^ (32 * (i + F / 32))) (2 ^ 32)]
    refine (Nat.div_lt_iff_lt_mul (Nat.two_pow_pos _)).1 ?_
    rw [Nat.add_mul_div_right _ _ (Nat.two_pow_pos _)]
    exact g1
  have r1 := f38.put (k + 3) F _ (i + F / 32 + 1) 0 (d * 2 ^ (F % 32) / 2 ^ 32) 1 i (i + F / 32) (by decide) rfl (by omega) (by decide) hX1 (by rw [Nat.pow_zero, Nat.mul_one]; omega)
    [((d * 2 ^ (F % 32) % 4294967296 : Nat) : Int), ((d * 2 ^ (F % 32) / 2 ^ 32 : Nat) : Int)] (by rw [Nat.pow_zero, Nat.mul_one]; rfl) (halves A) z (iter (f38.s2 (k + 3)) (k + 1))
  have hsum : L * 2 ^ F + d * 2 ^ (F % 32) % 2 ^ 32 * 2 ^ (32 * (i + F / 32)) + d * 2 ^ (F % 32) / 2 ^ 32 * 2 ^ 0 * 2 ^ (32 * (i + F / 32 + 1)) = (L + 2 ^ (32 * i) * d) * 2 ^ F := by
    have e : 2 ^ (32 * (i + F / 32 + 1)) = 2 ^ (32 * (i + F / 32)) * 2 ^ 32 := by rw [show 32 * (i + F / 32 + 1) = 32 * (i + F / 32) + 32 from Nat.mul_succ _ _, Nat.pow_add 2 (32 * (i + F / 32)) 32]
    rw [e, Nat.pow_zero, parts_sum, ht, hF2]
    exact (parts_mul _ _ _ _ _).symm
  rw [hsum] at r1
  have fin : iter (f38.s2 (k + 3)) (k + 3) ((F : Int), ((i + F / 32 : Nat) : Int) - 8, halves A, (i : Int), [((d * 2 ^ (F % 32) % 4294967296 : Nat) : Int), ((d * 2 ^ (F % 32) / 2 ^ 32 : Nat) : Int)], 0, z, halves (L * 2 ^ F / 2 ^ 256)) =
      some ((F : Int), halves A, (i : Int), z, halves ((L + 2 ^ (32 * i) * d) * 2 ^ F / 2 ^ 256)) := by
    rw [iter]
    refine Eq.trans r0 ?_
    rw [iter]
    refine Eq.trans r1 ?_
    rw [iter]
    rfl
  rw [fin]
  simp only [Option.bind_some]
  rw [wrap_i _ (by omega) (by omega)]
  rfl

theorem f38.mid (K A F : Nat) (hA : A < 2 ^ 256) (h0 : 0 < F) (hF : F < 512) (hK : 8 < K) : f38.F K (num A, (F : Int) - 256) = some (num (A * 2 ^ F / 2 ^ 256)) := by
  simp only [f38.F, f38.T, f92.spec, Option.bind_some]
  rw [decide_eq_false (by omega : ¬ ((F : Int) - 256 ≤ -256)), decide_eq_false (by omega : ¬ ((F : Int) - 256 ≥ 256)), wrap_i _ (by omega) (by omega), show (F : Int) - 256 + 256 = (F : Int) by omega]
  simp only [cond_false]
  have key := iter_for (stp := f38.s0 K) (N := 8) (fun i => ((F : Int), halves A, (i : Int), ([0, 0, 0, 0] : List Int), halves (A % 2 ^ (32 * i) * 2 ^ F / 2 ^ 256)))
    (y := some (([0, 0, 0, 0] : List Int), halves (A * 2 ^ F / 2 ^ 256))) (fun i hi rec => f38.round K A F i hF hi (by omega) rec _) (fun rec => by
      simp only [f38.s0, f38.s0t]
      rw [show (32 * 8 : Nat) = 256 from rfl, Nat.mod_eq_of_lt hA]
      rfl) hK
  have e0 : A % 2 ^ (32 * 0) * 2 ^ F / 2 ^ 256 = 0 := by simp [Nat.mod_one]
  rw [e0] at key
  have key' : iter (f38.s0 K) K ((F : Int), halves A, 0, [0, 0, 0, 0], [0, 0, 0, 0, 0, 0, 0, 0]) = some (([0, 0, 0, 0] : List Int), halves (A * 2 ^ F / 2 ^ 256)) := key
  rw [key']
  simp only [Option.bind_some, f93.spec]

theorem f38.far (K A : Nat) (n : Int) (h : n ≤ -256 ∨ 256 ≤ n) : f38.F K (num A, n) = some (num 0) := by
  simp only [f38.F, f38.T, f92.spec, Option.bind_some]
  have e : f93.F K [0, 0, 0, 0, 0, 0, 0, 0] = some (num 0) := f93.spec K 0
  rw [e]
  by_cases h1 : n ≤ -256
  · rw [decide_eq_true h1]; rfl
  · rw [decide_eq_false h1, decide_eq_true (show n ≥ 256 by omega)]; rfl

/-- To the left. -/
theorem f38.up (K A n : Nat) (hA : A < 2 ^ 256) (hK : 8 < K) : f38.F K (num A, (n : Int)) = some (num (A * 2 ^ n)) := by
  rcases Nat.lt_or_ge n 256 with h | h
  · have := f38.mid K A (n + 256) hA (by omega) (by omega) hK
    rw [show ((n + 256 : Nat) : Int) - 256 = (n : Int) by omega, Nat.pow_add, ← Nat.mul_assoc, Nat.mul_div_cancel _ (Nat.two_pow_pos 256)] at this
    exact this
  · rw [f38.far K A n (.inr (by omega))]
    have := words_mod 64 4 (A * 2 ^ n)
    rw [show (64 * 4 : Nat) = 256 from rfl, show n = (n - 256) + 256 by omega, Nat.pow_add, ← Nat.mul_assoc, Nat.mul_mod_left] at this
    rw [num, this, show n = (n - 256) + 256 by omega, Nat.pow_add, ← Nat.mul_assoc]
    simp

/-- To the right. -/
theorem f38.down (K A n : Nat) (hA : A < 2 ^ 256) (hK : 8 < K) : f38.F K (num A, -(n : Int)) = some (num (A / 2 ^ n)) := by
  rcases Nat.lt_or_ge n 256 with h | h
  · have := f38.mid K A (256 - n) hA (by omega) (by omega) hK
    have e : A * 2 ^ (256 - n) / 2 ^ 256 = A / 2 ^ n := by
      have : (2 : Nat) ^ 256 = 2 ^ n * 2 ^ (256 - n) := by rw [← Nat.pow_add]; congr 1; omega
      rw [this, Nat.mul_div_mul_right _ _ (Nat.two_pow_pos _)]
    rw [show ((256 - n : Nat) : Int) - 256 = -(n : Int) by omega, e] at this
    exact this
  · rw [f38.far K A _ (.inl (by omega)), Nat.div_eq_of_lt (Nat.lt_of_lt_of_le hA (Nat.pow_le_pow_right (by decide) h))]

end Go.Proofs
