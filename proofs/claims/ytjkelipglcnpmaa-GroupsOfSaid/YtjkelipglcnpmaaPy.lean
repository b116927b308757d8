/- Plain laws: lemmas that hold with no condition but those that each states. -/
import Derived.Test.YtjkelipglcnpmaaPx
import Derived.Test.YtjkelipglcnpmaaPm
import Derived.Test.YtjkelipglcnpmaaFy
namespace Go.Proofs
open Go.VM

/-! ### mods, as the reference has it (under way) -/

theorem f47.one (K : Nat) : f47.F K 1 = some (num 1) := f47.spec K 1 (by decide)

theorem f106.spec (A B M : Nat) (hA : A < 2 ^ 256) (hB : B < 2 ^ 256) (hM : M < 2 ^ 256) : f106.F 100000 (num A, num B, num M) = some (may2 A B M) := by
  simp only [f106.F, f106.T, f47.one, bind_s, f45.spec 100000 M 1 hM (by decide) (by decide), f45.spec 100000 A M hA hM (by decide), f45.spec 100000 B M hB hM (by decide), cmp_gt, cmp_lt]
  unfold may2
  by_cases h1 : 1 < M
  · rw [decide_eq_true h1, cond_t, Bool.true_and]
    by_cases h2 : A < M
    · rw [decide_eq_true h2, cond_t, Bool.true_and]
    · rw [decide_eq_false h2, cond_f, Bool.false_and]
  · rw [decide_eq_false h1, cond_f, Bool.false_and, Bool.false_and]

theorem word_get (X : Nat) (hX : X < 2 ^ 64) : List.getD (num X) 0 0 = (X : Int) := by
  have : (num X).getD 0 0 = ((X / 2 ^ (64 * 0) % 2 ^ 64 : Nat) : Int) := getD_words (by decide)
  rw [this, Nat.mul_zero, Nat.pow_zero, Nat.div_one, Nat.mod_eq_of_lt hX]

/-- times. -/
theorem f107.spec (A B M : Nat) (hA : A < M) (hB : B < M) (hM : M < 2 ^ 256) : f107.F 100000 (num A, num B, num M) = some (num (A * B % M)) := by
  have hM0 : 0 < M := by omega
  simp only [f107.F, f107.T, f96.spec M hM, bind_s]
  by_cases h : M < 2 ^ 64
  · have hA' : A < 2 ^ 64 := by omega
    have hB' : B < 2 ^ 64 := by omega
    have hlt : A * B < 2 ^ 64 * M := Nat.lt_of_lt_of_le (Nat.mul_lt_mul'' hA hB) (Nat.mul_le_mul_right _ (by omega))
    have hh : A * B / 2 ^ 64 < M := Nat.div_lt_of_lt_mul hlt
    have e : A * B / 2 ^ 64 * 18446744073709551616 + A * B % 2 ^ 64 = A * B := by have := Nat.mod_add_div (A * B) (2 ^ 64); omega
    have hr := Nat.mod_lt (A * B) hM0
    rw [decide_eq_true h, cond_t, word_get A hA', word_get B hB', word_get M h, f125.spec 100000 A B hA' hB', bind_s]
    simp only []
    rw [f100.spec 100000 _ _ M h hh (Nat.mod_lt _ (by decide)) (by decide), bind_s]
    simp only []
    rw [e, f47.spec 100000 _ (by omega), bind_s]
  · have hP : A * B < 2 ^ 256 * 2 ^ 256 := Nat.mul_lt_mul'' (by omega) (by omega)
    have hh : A * B / 2 ^ 256 < 2 ^ 256 := Nat.div_lt_of_lt_mul hP
    have hl : A * B % 2 ^ 256 < 2 ^ 256 := Nat.mod_lt _ (Nat.two_pow_pos 256)
    have e : A * B / 2 ^ 256 * 2 ^ 256 + A * B % 2 ^ 256 = A * B := by have := Nat.mod_add_div (A * B) (2 ^ 256); rw [Nat.mul_comm (2 ^ 256)] at this; omega
    rw [decide_eq_false h, cond_f, f37.spec A B (by omega) (by omega), bind_s]
    simp only []
    rw [← num_mod (A * B), f55.spec _ _ M hl hh hM, if_neg (by omega), bind_s, e]

theorem f66.same (A B M : Nat) (hA : A < 2 ^ 256) (hB : B < 2 ^ 256) (hM : M < 2 ^ 256) : f66.F 100000 (num A, num B, num M) = f61.F 100000 (num A, num B, num M) := by
  rw [f61.spec A B M hA hB hM]
  simp only [f66.F, f66.T, f106.spec A B M hA hB hM, bind_s, num_zero]
  by_cases h : may2 A B M = true
  · obtain ⟨h1, h2, h3⟩ := may2_iff.1 h
    have hm := mod_once (S := A + B) (M := M) (by omega)
    rw [if_pos h, h, Bool.not_true, cond_f, f33.all, bind_s, mod_self_of hA, mod_self_of hB]
    simp only []
    by_cases ho : 2 ^ 256 ≤ A + B
    · have e2 : f35.F 100000 (num (A + B), num M) = some (num (A + B - M), ((if (A + B) % 2 ^ 256 < M then 1 else 0 : Nat) : Int)) := by
        rw [← num_mod (A + B), f35.spec 100000 _ _ (Nat.mod_lt _ (Nat.two_pow_pos 256)) hM (by decide), show (A + B) % 2 ^ 256 + 2 ^ 256 - M = A + B - M by omega]
      rw [show (A + B) / 2 ^ 256 = 1 by omega, show (((1 : Nat) : Int) == 1) = true from rfl, cond_t, e2, bind_s, hm, if_pos (show M ≤ A + B by omega)]
    · have hS : A + B < 2 ^ 256 := by omega
      rw [show (A + B) / 2 ^ 256 = 0 by omega, show (((0 : Nat) : Int) == 1) = false from rfl, cond_f, f45.spec 100000 _ _ hS hM (by decide), bind_s, cmp_ge]
      by_cases hge : M ≤ A + B
      · rw [decide_eq_true hge, cond_t, f35.spec 100000 _ _ hS hM (by decide), bind_s, hm, if_pos hge]
        simp only []
        rw [show A + B + 2 ^ 256 - M = A + B - M + 2 ^ 256 by omega, num_add_mod]
      · rw [decide_eq_false hge, cond_f, hm, if_neg hge]
  · rw [if_neg h]
    rw [Bool.not_eq_true] at h
    rw [h]; rfl

theorem f67.spec (A B M : Nat) (hA : A < 2 ^ 256) (hB : B < 2 ^ 256) (hM : M < 2 ^ 256) : f67.F 100000 (num A, num B, num M) = some (if may2 A B M = true then (num ((A + M - B) % M), 0) else (num 0, 1)) := by
  simp only [f67.F, f67.T, f106.spec A B M hA hB hM, bind_s, num_zero]
  by_cases h : may2 A B M = true
  · obtain ⟨h1, h2, h3⟩ := may2_iff.1 h
    have hm := mod_once (S := A + M - B) (M := M) (by omega)
    rw [if_pos h, h, Bool.not_true, cond_f, f35.spec 100000 A B hA hB (by decide), bind_s]
    simp only []
    by_cases hab : A < B
    · rw [if_pos hab, show (((1 : Nat) : Int) == 1) = true from rfl, cond_t, f33.all, bind_s]
      simp only []
      rw [show A + 2 ^ 256 - B + M = A + M - B + 2 ^ 256 by omega, num_add_mod, hm, if_neg (by omega)]
    · rw [if_neg hab, show (((0 : Nat) : Int) == 1) = false from rfl, cond_f, show A + 2 ^ 256 - B = A - B + 2 ^ 256 by omega, num_add_mod, hm, if_pos (by omega), show A + M - B - M = A - B by omega]
  · rw [if_neg h]
    rw [Bool.not_eq_true] at h
    rw [h]; rfl

theorem f68.same (A B M : Nat) (hA : A < 2 ^ 256) (hB : B < 2 ^ 256) (hM : M < 2 ^ 256) : f68.F 100000 (num A, num B, num M) = f63.F 100000 (num A, num B, num M) := by
  rw [f63.spec A B M hA hB hM]
  simp only [f68.F, f68.T, f106.spec A B M hA hB hM, bind_s, num_zero]
  by_cases h : may2 A B M = true
  · obtain ⟨h1, h2, h3⟩ := may2_iff.1 h
    rw [if_pos h, h, Bool.not_true, cond_f, f107.spec A B M h2 h3 hM, bind_s]
  · rw [if_neg h]
    rw [Bool.not_eq_true] at h
    rw [h]; rfl

end Go.Proofs

namespace Go.Proofs
open Go.VM

/-- Powers, from the highest bit on. -/
theorem pow_top (A M N e : Nat) : A ^ (N / 2 ^ (e + 1)) % M * (A ^ (N / 2 ^ (e + 1)) % M) % M = A ^ (2 * (N / 2 ^ (e + 1))) % M := by
  rw [← Nat.mul_mod, ← Nat.pow_add, Nat.two_mul]

theorem div_top (N e : Nat) : N / 2 ^ e = 2 * (N / 2 ^ (e + 1)) + N / 2 ^ e % 2 := by
  have h1 : N / 2 ^ (e + 1) = N / 2 ^ e / 2 := by rw [Nat.div_div_eq_div_mul, Nat.pow_succ]
  rw [h1]
  omega

/-- The loop of Exp, of any numbers. -/
theorem f69.loop (A N M : Nat) (hN : N < 2 ^ 256) (hA : A < M) (h1 : 1 < M) (hM : M < 2 ^ 256) (z : List Int) :
    iter (f69.s0 100000) 100000 (((blen N : Nat) : Int) - 1, num A, num N, num M, z, num 1) = some (z, num (A ^ N % M)) := by
  have hb := blen_256 hN
  have hM0 : 0 < M := by omega
  have key := iter_for (stp := f69.s0 100000) (N := blen N) (fun j => (((blen N : Nat) : Int) - 1 - (j : Int), num A, num N, num M, z, num (A ^ (N / 2 ^ (blen N - j)) % M))) (y := some (z, num (A ^ N % M))) (fun j hj rec => by
      simp only [f69.s0, f69.s0t]
      obtain ⟨e, he⟩ : ∃ e, blen N - j = e + 1 := ⟨blen N - j - 1, by omega⟩
      have hx := Nat.mod_lt (A ^ (N / 2 ^ (e + 1))) hM0
      have hy := Nat.mod_lt (A ^ (2 * (N / 2 ^ (e + 1)))) hM0
      have w : IntKind.wrap .i64 (((blen N : Nat) : Int) - 1 - (j : Int) - 1) = ((blen N : Nat) : Int) - 1 - ((j + 1 : Nat) : Int) := by rw [wrap_i _ (by omega) (by omega)]; omega
      have hd := div_top N e
      rw [decide_eq_true (show ((blen N : Nat) : Int) - 1 - (j : Int) ≥ 0 by omega), cond_t, he, show blen N - (j + 1) = e by omega, f107.spec _ _ M hx hx hM, bind_s, pow_top, w, show ((blen N : Nat) : Int) - 1 - (j : Int) = (e : Int) by omega, f41.all N e hN, bind_s]
      rcases Nat.mod_two_eq_zero_or_one (N / 2 ^ e) with h | h
      · rw [h, show (((0 : Nat) : Int) == 1) = false from rfl, cond_f]
        rw [h, Nat.add_zero] at hd
        rw [← hd]
      · rw [h, show (((1 : Nat) : Int) == 1) = true from rfl, cond_t, f107.spec _ _ M hy hA hM, bind_s, Nat.mod_mul_mod, ← Nat.pow_succ]
        rw [h] at hd
        rw [show (2 * (N / 2 ^ (e + 1))).succ = N / 2 ^ e from hd.symm])
    (fun rec => by
      simp only [f69.s0, f69.s0t]
      rw [decide_eq_false (show ¬ ((blen N : Nat) : Int) - 1 - ((blen N : Nat) : Int) ≥ 0 by omega), cond_f, Nat.sub_self, Nat.pow_zero, Nat.div_one]) (show blen N < 100000 by omega)
  have hs : N / 2 ^ (blen N - 0) = 0 := by rw [Nat.sub_zero]; exact Nat.div_eq_of_lt (blen_lt N)
  simp only [hs, Nat.pow_zero, Nat.mod_eq_of_lt h1] at key
  have key' : iter (f69.s0 100000) 100000 (((blen N : Nat) : Int) - 1 - ((0 : Nat) : Int), num A, num N, num M, z, num 1) = some (z, num (A ^ N % M)) := key
  rwa [show ((blen N : Nat) : Int) - 1 - ((0 : Nat) : Int) = ((blen N : Nat) : Int) - 1 by omega] at key'

/-- A bit of a word. -/
theorem bit_of (N e : Nat) : (bits .and .u64 (shiftI .shr .u64 ((N / 2 ^ (64 * (e / 64)) % 2 ^ 64 : Nat) : Int) ((e % 64 : Nat) : Int)) 1 == 1) = (((N / 2 ^ e % 2 : Nat) : Int) == 1) := by
  have hw := Nat.mod_lt (N / 2 ^ (64 * (e / 64))) (show 0 < 2 ^ 64 by decide)
  have hq : N / 2 ^ (64 * (e / 64)) % 2 ^ 64 / 2 ^ (e % 64) ≤ N / 2 ^ (64 * (e / 64)) % 2 ^ 64 := Nat.div_le_self _ _
  have hs : shiftI .shr .u64 ((N / 2 ^ (64 * (e / 64)) % 2 ^ 64 : Nat) : Int) ((e % 64 : Nat) : Int) = ((N / 2 ^ (64 * (e / 64)) % 2 ^ 64 / 2 ^ (e % 64) : Nat) : Int) := by
    simp only [shiftI, IntKind.bits, Int.toNat_natCast]
    rw [Nat.min_eq_left (by omega)]
    exact fdiv_nat _ _
  rw [hs, show (1 : Int) = ((1 : Nat) : Int) from rfl, bits_and_u64_nat _ 1 (by omega) (by decide), Nat.and_one_is_mod, word_bit]

theorem f108.spec (A N M : Nat) (hN : N < 2 ^ 256) (hA : A < M) (h1 : 1 < M) (hM : M < 18446744073709551616) : f108.F 100000 ((A : Int), num N, (M : Int)) = some ((A ^ N % M : Nat) : Int) := by
  have hb := blen_256 hN
  have hM0 : 0 < M := by omega
  have hmul : ∀ X Y : Nat, X < M → Y < M → ∃ h l : Nat, f125.F 100000 ((X : Int), (Y : Int)) = some ((h : Int), (l : Int)) ∧ f100.F 100000 ((h : Int), (l : Int), (M : Int)) = some (((X * Y / M : Nat) : Int), ((X * Y % M : Nat) : Int)) := by
    intro X Y hX hY
    have hlt : X * Y < 2 ^ 64 * M := Nat.lt_of_lt_of_le (Nat.mul_lt_mul'' hX hY) (Nat.mul_le_mul_right _ (by omega))
    have hh : X * Y / 2 ^ 64 < M := Nat.div_lt_of_lt_mul hlt
    have e : X * Y / 2 ^ 64 * 18446744073709551616 + X * Y % 2 ^ 64 = X * Y := by have := Nat.mod_add_div (X * Y) (2 ^ 64); omega
    refine ⟨_, _, f125.spec 100000 X Y (by omega) (by omega), ?_⟩
    rw [f100.spec 100000 _ _ M hM hh (Nat.mod_lt _ (by decide)) (by decide), e]
  have key := iter_for (stp := f108.s0 100000) (N := blen N) (fun j => ((A : Int), (M : Int), ((A ^ (N / 2 ^ (blen N - j)) % M : Nat) : Int), ((blen N : Nat) : Int) - 1 - (j : Int), num N)) (y := some ((A ^ N % M : Nat) : Int)) (fun j hj rec => by
      simp only [f108.s0, f108.s0t]
      obtain ⟨e, he⟩ : ∃ e, blen N - j = e + 1 := ⟨blen N - j - 1, by omega⟩
      have hx := Nat.mod_lt (A ^ (N / 2 ^ (e + 1))) hM0
      have hy := Nat.mod_lt (A ^ (2 * (N / 2 ^ (e + 1)))) hM0
      have w : IntKind.wrap .i64 (((blen N : Nat) : Int) - 1 - (j : Int) - 1) = ((blen N : Nat) : Int) - 1 - ((j + 1 : Nat) : Int) := by rw [wrap_i _ (by omega) (by omega)]; omega
      have hd := div_top N e
      have ek : ((blen N : Nat) : Int) - 1 - (j : Int) = (e : Int) := by omega
      have hq : e / 64 < 4 := by omega
      have e1 : List.getD (num N) (e / 64) 0 = ((N / 2 ^ (64 * (e / 64)) % 2 ^ 64 : Nat) : Int) := getD_words hq
      obtain ⟨h, l, m1, m2⟩ := hmul _ _ hx hx
      rw [decide_eq_true (show ((blen N : Nat) : Int) - 1 - (j : Int) ≥ 0 by omega), cond_t, he, show blen N - (j + 1) = e by omega, m1, bind_s]
      simp only []
      rw [m2, bind_s, pow_top, w, ek]
      simp only []
      rw [show Int.tdiv (e : Int) 64 = ((e / 64 : Nat) : Int) from tdiv_nat e 64, show Int.tmod (e : Int) 64 = ((e % 64 : Nat) : Int) from rfl, wrap_i _ (by omega) (by omega), decide_eq_true (show (0 : Int) ≤ ((e / 64 : Nat) : Int) ∧ ((e / 64 : Nat) : Int) < 4 by omega), cond_t,
        decide_eq_true (show (0 : Int) ≤ ((e % 64 : Nat) : Int) from Int.natCast_nonneg _), cond_t, Int.toNat_natCast, e1, bit_of]
      rcases Nat.mod_two_eq_zero_or_one (N / 2 ^ e) with hbit | hbit
      · rw [hbit, show (((0 : Nat) : Int) == 1) = false from rfl, cond_f]
        rw [hbit, Nat.add_zero] at hd
        rw [← hd]
      · obtain ⟨h', l', n1, n2⟩ := hmul _ _ hy hA
        rw [hbit, show (((1 : Nat) : Int) == 1) = true from rfl, cond_t, n1, bind_s]
        simp only []
        rw [n2, bind_s, Nat.mod_mul_mod, ← Nat.pow_succ]
        rw [hbit] at hd
        rw [show (2 * (N / 2 ^ (e + 1))).succ = N / 2 ^ e from hd.symm])
    (fun rec => by
      simp only [f108.s0, f108.s0t]
      rw [decide_eq_false (show ¬ ((blen N : Nat) : Int) - 1 - ((blen N : Nat) : Int) ≥ 0 by omega), cond_f, Nat.sub_self, Nat.pow_zero, Nat.div_one]) (show blen N < 100000 by omega)
  have hs : N / 2 ^ (blen N - 0) = 0 := by rw [Nat.sub_zero]; exact Nat.div_eq_of_lt (blen_lt N)
  simp only [hs, Nat.pow_zero] at key
  have key' : iter (f108.s0 100000) 100000 ((A : Int), (M : Int), ((1 % M : Nat) : Int), ((blen N : Nat) : Int) - 1, num N) = some ((A ^ N % M : Nat) : Int) := by
    have e0 : ((blen N : Nat) : Int) - 1 - ((0 : Nat) : Int) = ((blen N : Nat) : Int) - 1 := by omega
    rw [← e0]; exact key
  simp only [f108.F, f108.T]
  rw [decide_eq_true (show (M : Int) ≠ 0 by omega), cond_t, f43.spec 100000 N hN (by decide), bind_s, wrap_i _ (by omega) (by omega), show Int.tmod 1 (M : Int) = ((1 % M : Nat) : Int) from rfl, key', bind_s]

theorem f69.same (A N M : Nat) (hA : A < 2 ^ 256) (hN : N < 2 ^ 256) (hM : M < 2 ^ 256) : f69.F 100000 (num A, num N, num M) = f64.F 100000 (num A, num N, num M) := by
  have hb := blen_256 hN
  have em : may2 A A M = may1 A M := by unfold may2 may1; cases decide (1 < M) <;> cases decide (A < M) <;> rfl
  rw [f64.spec A N M hA hN hM]
  simp only [f69.F, f69.T, f106.spec A A M hA hA hM, em, bind_s, num_zero, f47.one]
  by_cases h : may1 A M = true
  · obtain ⟨h1, h2⟩ := may1_iff.1 h
    rw [if_pos h, h, Bool.not_true, cond_f, f96.spec M hM, bind_s]
    by_cases hw : M < 2 ^ 64
    · rw [decide_eq_true hw, cond_t, word_get A (by omega), word_get M hw, f108.spec A N M hN h2 h1 hw, bind_s, f47.spec 100000 _ (by have := Nat.mod_lt (A ^ N) (show 0 < M by omega); omega), bind_s]
    · rw [decide_eq_false hw, cond_f, f43.spec 100000 N hN (by decide), bind_s, wrap_i _ (by omega) (by omega), f69.loop A N M hN h2 h1 hM, bind_s]
  · rw [if_neg h]
    rw [Bool.not_eq_true] at h
    rw [h]; rfl

end Go.Proofs

namespace Go.Proofs
open Go.VM

/-- The loop of Inv, of the reference. -/
theorem f70.loop (A M : Nat) (hA : A < M) (h1 : 1 < M) (hM : M < 2 ^ 256) (hg : Nat.gcd A M = 1) (z : List Int) :
    ∃ q, q < M ∧ A * q % M = 1 ∧ iter (f70.s0 100000) 100000 (num M, z, num M, num A, num 0, num 1) = some (z, num q) := by
  have hA0 : 0 < A := by
    rcases Nat.eq_zero_or_pos A with h | h
    · rw [h, Nat.gcd_zero_left] at hg; omega
    · exact h
  obtain ⟨y, ⟨q, h2, h3, rfl⟩, h⟩ := iter_inv (stp := f70.s0 100000) (fun m x => ∃ a p b q, x = (num M, z, num a, num b, num p, num q) ∧ Lines A M a p b q ∧ 0 < b ∧ blen a + blen b ≤ m)
    (fun y => ∃ q, q < M ∧ A * q % M = 1 ∧ y = (z, num q)) (by
      intro m x ⟨a, p, b, q, hx, hl, hb0, hm⟩
      subst hx
      have hle := hl.hle
      have ham := hl.ham
      have ha : a < 2 ^ 256 := by omega
      have hb : b < 2 ^ 256 := by omega
      simp only [f70.s0, f70.s0t, f47.one, bind_s, eqN b 1 hb (by decide), Bool.and_true]
      by_cases hb1 : b = 1
      · left
        refine ⟨_, ⟨q, hl.hq, ?_, rfl⟩, fun rec => ?_⟩
        · rw [hl.hbq, hb1, Nat.mod_eq_of_lt h1]
        · rw [decide_eq_true hb1, Bool.not_true, cond_f]
      · right
        have hr0 : 0 < a % b := by
          rcases Nat.eq_zero_or_pos (a % b) with h0 | h0
          · have hgc := hl.hgcd
            rw [hg, Nat.gcd_comm, Nat.gcd_rec, h0, Nat.gcd_zero_left] at hgc
            exact absurd hgc hb1
          · exact h0
        have hbr := blen_rem hb0 hle
        have hk : a / b < 2 ^ 256 := Nat.lt_of_le_of_lt (Nat.div_le_self a b) ha
        have hkm := Nat.mod_lt (a / b) (show 0 < M by omega)
        have hmul := Nat.mod_lt (a / b * q) (show 0 < M by omega)
        have hp := hl.hp
        have hq := hl.hq
        refine ⟨_, blen b + blen (a % b), by omega, ⟨_, _, _, _, rfl, hl.step hb0, hr0, Nat.le_refl _⟩, fun rec => ?_⟩
        rw [decide_eq_false hb1, Bool.not_false, cond_t, f53.spec a b ha hb, if_neg (by omega), bind_s]
        simp only []
        rw [f53.spec (a / b) M hk hM, if_neg (by omega), bind_s]
        simp only []
        rw [f107.spec _ _ M hkm hq hM, bind_s, Nat.mod_mul_mod, f67.spec p _ M (by omega) (by omega) hM, if_pos (may2_iff.2 ⟨h1, hp, hmul⟩), bind_s])
    512 _ ⟨M, 0, A, 1, rfl, ⟨Nat.le_of_lt hA, Nat.le_refl _, Nat.gcd_comm _ _, by omega, h1, by rw [Nat.mul_zero, Nat.zero_mod, Nat.mod_self], by rw [Nat.mul_one]⟩, hA0, by
      have := blen_256 hM; have := blen_256 (Nat.lt_trans hA hM); omega⟩ 100000 (by decide)
  exact ⟨q, h2, h3, h⟩

theorem f70.same (A M : Nat) (hA : A < 2 ^ 256) (hM : M < 2 ^ 256) : f70.F 100000 (num A, num M) = f65.F 100000 (num A, num M) := by
  have em : may2 A A M = may1 A M := by unfold may2 may1; cases decide (1 < M) <;> cases decide (A < M) <;> rfl
  have hgl : Nat.gcd A M < 2 ^ 256 := gcd_lt hA hM
  simp only [f70.F, f70.T, f106.spec A A M hA hA hM, em, bind_s, num_zero, f47.one, f57.spec A M hA hM, eqN _ 1 hgl (by decide), Bool.and_true]
  by_cases h : may1 A M = true
  · obtain ⟨h1, h2⟩ := may1_iff.1 h
    rw [h, Bool.not_true, cond_f]
    by_cases hg : Nat.gcd A M = 1
    · obtain ⟨q, hq, hm, hi⟩ := f70.loop A M h2 h1 hM hg (num 0)
      rw [decide_eq_true hg, Bool.not_true, cond_f, hi, bind_s, f65.known A M q h2 h1 hM hq hm]
    · rw [decide_eq_false hg, Bool.not_false, cond_t, f65.without A M h2 h1 hM hg]
  · obtain ⟨p, _, hf⟩ := f65.spec A M hA hM
    rw [hf, if_neg h]
    rw [Bool.not_eq_true] at h
    rw [h]; rfl

theorem f67.same (A B M : Nat) (hA : A < 2 ^ 256) (hB : B < 2 ^ 256) (hM : M < 2 ^ 256) : f67.F 100000 (num A, num B, num M) = f62.F 100000 (num A, num B, num M) := by
  rw [f67.spec A B M hA hB hM, f62.spec A B M hA hB hM]

/-- ModsReckoned. -/
theorem f17.holds (A B M : Nat) (hA : A < 2 ^ 256) (hB : B < 2 ^ 256) (hM : M < 2 ^ 256) : f17.F 100000 (num A, num B, num M) = some true := by
  obtain ⟨p, _, hi⟩ := f65.spec A M hA hM
  obtain ⟨r, hr⟩ : ∃ r : Nat × Int, f65.F 100000 (num A, num M) = some (num r.1, r.2) := by
    refine ⟨if may1 A M = true then (if Nat.gcd A M = 1 then (p, 0) else (0, 7)) else (0, 1), ?_⟩
    rw [hi]
    by_cases h : may1 A M = true
    · rw [if_pos h, if_pos h]
      by_cases hg : Nat.gcd A M = 1
      · rw [if_pos hg, if_pos hg]
      · rw [if_neg hg, if_neg hg]
    · rw [if_neg h, if_neg h]
  simp only [f17.F, f17.T, f66.same A B M hA hB hM, f67.same A B M hA hB hM, f68.same A B M hA hB hM, f69.same A B M hA hB hM, f70.same A M hA hM, f61.spec A B M hA hB hM, f62.spec A B M hA hB hM, f63.spec A B M hA hB hM, f64.spec A B M hA hB hM, hr, bind_s, eqL_num]
  by_cases h : may2 A B M = true <;> by_cases h' : may1 A M = true <;> simp only [h, h', if_true, if_false, eqL_num, decide_true, Bool.and_true, cond_t, beq_self_eq_true, Bool.false_eq_true]

end Go.Proofs
