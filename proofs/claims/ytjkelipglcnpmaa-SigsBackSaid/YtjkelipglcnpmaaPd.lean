/- Plain laws: lemmas that hold with no condition but those that each states. -/
import Derived.Test.YtjkelipglcnpmaaPl
import Derived.Test.YtjkelipglcnpmaaFd
namespace Go.Proofs
open Go.VM
theorem f95.spec (K : Nat) : f95.F K () = some (num 0) := rfl
theorem num_add_mod (A : Nat) : num (A + 2 ^ 256) = num A := by
  rw [← num_mod (A + 2 ^ 256), ← num_mod A, Nat.add_mod_right]
theorem cmp_ge (A B : Nat) : decide (cmp A B ≥ 0) = decide (B ≤ A) := by
  unfold cmp
  by_cases h : A = B
  · subst h; simp
  · rw [if_neg h]
    by_cases h2 : A < B
    · rw [if_pos h2, decide_eq_false (by omega), decide_eq_false (by omega)]
    · rw [if_neg h2, decide_eq_true (by omega), decide_eq_true (by omega)]
theorem cmp_lt (A B : Nat) : decide (cmp A B < 0) = decide (A < B) := by
  unfold cmp
  by_cases h : A = B
  · subst h; simp
  · rw [if_neg h]
    by_cases h2 : A < B
    · rw [if_pos h2, decide_eq_true (by omega), decide_eq_true h2]
    · rw [if_neg h2, decide_eq_false (by omega), decide_eq_false h2]
theorem mod_once {S M : Nat} (h : S < 2 * M) : S % M = if M ≤ S then S - M else S := by
  by_cases h1 : M ≤ S
  · rw [if_pos h1, Nat.mod_eq_sub_mod h1, Nat.mod_eq_of_lt (by omega)]
  · rw [if_neg h1, Nat.mod_eq_of_lt (by omega)]
theorem f101.spec (A B M : Nat) (hA : A < M) (hB : B < M) (hM : M < 2 ^ 256) : f101.F 100000 (num A, num B, num M) = some (num ((A + B) % M)) := by
  have mA := mod_self_of (Nat.lt_trans hA hM)
  have mB := mod_self_of (Nat.lt_trans hB hM)
  have mM := mod_self_of hM
  have hm := mod_once (S := A + B) (M := M) (by omega)
  simp only [f101.F, f101.T, f32.all, f34.all, f44.all, bind_s, mA, mB, mM, cmp_ge]
  by_cases h : 2 ^ 256 ≤ A + B
  · have hc : (A + B) / 2 ^ 256 = 1 := by omega
    have hr : (A + B) % 2 ^ 256 + 2 ^ 256 - M = A + B - M := by omega
    rw [hc, decide_eq_true (show ((1 : Nat) : Int) > 0 by decide), cond_t, hr, hm, if_pos (by omega)]
  · have hc : (A + B) / 2 ^ 256 = 0 := by omega
    have hr : (A + B) % 2 ^ 256 = A + B := Nat.mod_eq_of_lt (by omega)
    rw [hc, decide_eq_false (show ¬ ((0 : Nat) : Int) > 0 by decide), cond_f, hr]
    by_cases h2 : M ≤ A + B
    · rw [decide_eq_true h2, cond_t, hm, if_pos h2, show A + B + 2 ^ 256 - M = A + B - M + 2 ^ 256 by omega, num_add_mod]
    · rw [decide_eq_false h2, cond_f, hm, if_neg h2]
theorem or_bit (Q n : Nat) (hn : n < 256) (hQ : Q % 2 ^ (n + 1) = 0) :
    setD (num Q) (n / 64) (bits .or .u64 ((num Q).getD (n / 64) 0) (shiftI .shl .u64 1 ((n % 64 : Nat) : Int))) = num (Q + 2 ^ n) := by
  have hw : n / 64 < 4 := by omega
  have hs : shiftI .shl .u64 1 ((n % 64 : Nat) : Int) = ((2 ^ (n % 64) : Nat) : Int) := by
    have hm : n % 64 < 64 := Nat.mod_lt _ (by decide)
    show IntKind.wrap .u64 (1 * 2 ^ (min (Int.toNat ((n % 64 : Nat) : Int)) 64)) = _
    rw [Int.toNat_natCast, Nat.min_eq_left (by omega), Int.one_mul]
    have : (2 : Int) ^ (n % 64) = ((2 ^ (n % 64) : Nat) : Int) := by simp
    rw [this, wrap_nat, Nat.mod_eq_of_lt]
    exact Nat.pow_lt_pow_right (by decide) hm
  have hx : Q / 2 ^ (64 * (n / 64)) % 2 ^ 64 < 18446744073709551616 := Nat.mod_lt _ (by decide)
  have hp : 2 ^ (n % 64) < 18446744073709551616 := Nat.pow_lt_pow_right (a := 2) (by decide) (show n % 64 < 64 from Nat.mod_lt _ (by decide))
  rw [getD_words hw, hs, bits_or_u64_nat _ _ hx hp]

  generalize ha : n % 64 = a at hp
  have ha64 : a < 64 := by omega
  obtain ⟨c, hc⟩ : ∃ c, Q / 2 ^ (64 * (n / 64)) % 2 ^ 64 = c * 2 ^ (a + 1) := by
    refine ⟨Q / 2 ^ (64 * (n / 64)) % 2 ^ 64 / 2 ^ (a + 1), ?_⟩
    have h0 : Q / 2 ^ (64 * (n / 64)) % 2 ^ 64 % 2 ^ (a + 1) = 0 := by
      rw [Nat.mod_mod_of_dvd _ (Nat.pow_dvd_pow 2 (by omega))]
      have h1 : Q % (2 ^ (64 * (n / 64)) * 2 ^ (a + 1)) = 0 := by
        rw [← Nat.pow_add, show 64 * (n / 64) + (a + 1) = n + 1 by omega]; exact hQ
      rw [Nat.mod_mul] at h1
      have h2 : 2 ^ (64 * (n / 64)) * (Q / 2 ^ (64 * (n / 64)) % 2 ^ (a + 1)) = 0 := by omega
      rcases Nat.mul_eq_zero.1 h2 with h | h
      · have := Nat.two_pow_pos (64 * (n / 64)); omega
      · exact h
    have := Nat.div_add_mod (Q / 2 ^ (64 * (n / 64)) % 2 ^ 64) (2 ^ (a + 1))
    rw [h0, Nat.add_zero, Nat.mul_comm] at this
    exact this.symm
  have hor : (Q / 2 ^ (64 * (n / 64)) % 2 ^ 64) ||| 2 ^ a = Q / 2 ^ (64 * (n / 64)) % 2 ^ 64 + 2 ^ a := by
    rw [hc, ← Nat.shiftLeft_eq, ← Nat.shiftLeft_add_eq_or_of_lt (Nat.pow_lt_pow_right (by decide) (Nat.lt_succ_self a))]
  have hlt : Q / 2 ^ (64 * (n / 64)) % 2 ^ 64 + 2 ^ a < 2 ^ 64 := by
    rw [← hor]
    exact Nat.or_lt_two_pow (Nat.mod_lt _ (by decide)) hp
  rw [hor]
  show setD (vec 4 fun j => Q / 2 ^ (64 * j) % 2 ^ 64) (n / 64) _ = _
  rw [setD_vec hw, set_words 64 4 Q (n / 64) _ hlt]
  congr 1
  have hs := split_word 64 Q (n / 64)
  have e2 : 2 ^ n = 2 ^ (64 * (n / 64)) * 2 ^ a := by rw [← Nat.pow_add]; congr 1; omega
  rw [e2]
  conv => rhs; rw [hs]
  simp only [Nat.mul_add]
  omega
theorem digit (A T : Nat) (hT : 0 < T) : (T ≤ A % (T * 2) → A % T = A % (T * 2) - T ∧ A / T = A / (T * 2) * 2 + 1) ∧ (¬ T ≤ A % (T * 2) → A % T = A % (T * 2) ∧ A / T = A / (T * 2) * 2) := by
  have h1 : A % (T * 2) = A % T + T * (A / T % 2) := Nat.mod_mul
  have h2 : A / (T * 2) = A / T / 2 := (Nat.div_div_eq_div_mul _ _ _).symm
  have h3 := Nat.mod_lt A hT
  rw [h1, h2]
  rcases Nat.mod_two_eq_zero_or_one (A / T) with h | h
  · rw [h, Nat.mul_zero, Nat.add_zero]
    exact ⟨fun h => by omega, fun _ => ⟨rfl, by omega⟩⟩
  · rw [h, Nat.mul_one]
    exact ⟨fun _ => ⟨by omega, by omega⟩, fun h => by omega⟩
theorem f52.round (A B n : Nat) (hA : A < 2 ^ 256) (hB : 0 < B) (hn : n < 256) (hT : B * 2 ^ n < 2 ^ 256) (rec : _ → _) :
    f52.s0 100000 rec ((n : Int), num (A / (B * 2 ^ (n + 1)) * 2 ^ (n + 1)), num (A % (B * 2 ^ (n + 1))), num (B * 2 ^ n)) = rec ((n : Int) - 1, num (A / (B * 2 ^ n) * 2 ^ n), num (A % (B * 2 ^ n)), num (B * 2 ^ n / 2)) := by
  have hTp : 0 < B * 2 ^ n := Nat.mul_pos hB (Nat.two_pow_pos n)
  have e2 : B * 2 ^ (n + 1) = B * 2 ^ n * 2 := by rw [Nat.pow_succ, Nat.mul_assoc]
  obtain ⟨d1, d2⟩ := digit A (B * 2 ^ n) hTp
  rw [e2]
  generalize hTT : B * 2 ^ n = T at *
  have mR := mod_self_of (Nat.lt_of_le_of_lt (Nat.mod_le A (T * 2)) hA)
  have mT := mod_self_of hT
  have s1 : f38.F 100000 (num T, -1) = some (num (T % 2 ^ 256 / 2 ^ 1)) := f38.downA T 1
  have w1 : IntKind.wrap .i64 ((n : Int) - 1) = (n : Int) - 1 := wrap_i _ (by omega) (by omega)
  have w2 : IntKind.wrap .i64 (Int.tdiv (n : Int) 64) = ((n / 64 : Nat) : Int) := by
    rw [show (64 : Int) = ((64 : Nat) : Int) from rfl, tdiv_nat, wrap_i _ (by omega) (by omega)]
  have w3 : Int.tmod (n : Int) 64 = ((n % 64 : Nat) : Int) := tmod_nat n 64
  have h4 : decide ((0 : Int) ≤ ((n / 64 : Nat) : Int) ∧ ((n / 64 : Nat) : Int) < 4) = true := inR_nat (n := 4) (by omega)
  simp only [f52.s0, f52.s0t]
  rw [decide_eq_true (show (n : Int) ≥ 0 by omega), cond_t, f44.all, bind_s, mR, mT, cmp_ge, w1, w2, w3, h4, s1]
  simp only [cond_t, bind_s, mT, Nat.pow_one, Int.toNat_natCast, decide_eq_true (show (0 : Int) ≤ ((n % 64 : Nat) : Int) by omega)]
  by_cases h : T ≤ A % (T * 2)
  · obtain ⟨g1, g2⟩ := d1 h
    have hQ : A / (T * 2) * 2 ^ (n + 1) % 2 ^ (n + 1) = 0 := Nat.mul_mod_left _ _
    rw [decide_eq_true h, cond_t, f34.all, bind_s, mR, mT, or_bit _ _ hn hQ, g1, g2]
    simp only []
    rw [show A % (T * 2) + 2 ^ 256 - T = A % (T * 2) - T + 2 ^ 256 by omega, num_add_mod, Nat.add_mul, Nat.one_mul, Nat.mul_assoc, Nat.mul_comm 2 (2 ^ n), ← Nat.pow_succ]
  · obtain ⟨g1, g2⟩ := d2 h
    rw [decide_eq_false h, cond_f, g1, g2, Nat.mul_assoc, Nat.mul_comm 2 (2 ^ n), ← Nat.pow_succ]
theorem f52.loop (A B up : Nat) (hA : A < 2 ^ 256) (hB : 0 < B) (hup : up < 256) (hT : B * 2 ^ up < 2 ^ 256) (hlt : A < B * 2 ^ (up + 1)) :
    iter (f52.s0 100000) 100000 ((up : Int), [0, 0, 0, 0], num A, num (B * 2 ^ up)) = some (num (A / B), num (A % B)) := by
  have key := iter_for (stp := f52.s0 100000) (N := up + 1) (fun i => (((up + 1 - i : Nat) : Int) - 1, num (A / (B * 2 ^ (up + 1 - i)) * 2 ^ (up + 1 - i)), num (A % (B * 2 ^ (up + 1 - i))), num (B * 2 ^ (up + 1 - i) / 2)))
    (y := some (num (A / B), num (A % B))) (fun i hi rec => by
      obtain ⟨n, hn⟩ : ∃ n, up + 1 - i = n + 1 := ⟨up - i, by omega⟩
      have hTn : B * 2 ^ n < 2 ^ 256 := Nat.lt_of_le_of_lt (Nat.mul_le_mul_left B (Nat.pow_le_pow_right (by decide) (by omega))) hT
      have hr := f52.round A B n hA hB (by omega) hTn rec
      have e3 : B * 2 ^ (n + 1) / 2 = B * 2 ^ n := by rw [Nat.pow_succ, ← Nat.mul_assoc]; omega
      rw [hn, show up + 1 - (i + 1) = n by omega, e3, show ((n + 1 : Nat) : Int) - 1 = (n : Int) by omega]
      exact hr) (fun rec => by
      simp only [f52.s0, f52.s0t, Nat.sub_self, Nat.pow_zero, Nat.mul_one]
      rw [decide_eq_false (show ¬ (((0 : Nat) : Int) - 1) ≥ 0 by decide), cond_f]) (show up + 1 < 100000 by omega)
  simp only [Nat.sub_zero, Nat.div_eq_of_lt hlt, Nat.mod_eq_of_lt hlt, Nat.zero_mul] at key
  have e3 : B * 2 ^ (up + 1) / 2 = B * 2 ^ up := by rw [Nat.pow_succ, ← Nat.mul_assoc]; omega
  rw [e3, show ((up + 1 : Nat) : Int) - 1 = (up : Int) by omega] at key
  exact key
theorem word0 (A : Nat) (h : A < 2 ^ 64) : (num A).getD 0 0 = (A : Int) := by
  rw [getD_words (show 0 < 4 by decide), Nat.mul_zero, Nat.pow_zero, Nat.div_one, Nat.mod_eq_of_lt h]
theorem f52.spec (A B : Nat) (hA : A < 2 ^ 256) (hB : B < 2 ^ 256) (h0 : 0 < B) : f52.F 100000 (num A, num B) = some (num (A / B), num (A % B), 0) := by
  have mA := mod_self_of hA
  have mB := mod_self_of hB
  have bA := blen_256 hA
  have bB := blen_256 hB
  have lA := blen_lt A
  have lB := blen_lt B
  obtain ⟨gB, pB⟩ := blen_ge (x := B) (by omega)
  have w1 : IntKind.wrap .i64 (((blen A : Nat) : Int) - ((blen B : Nat) : Int)) = ((blen A : Nat) : Int) - ((blen B : Nat) : Int) := wrap_i _ (by omega) (by omega)
  have hz : decide (B = 0 % 2 ^ 256) = false := decide_eq_false (fun h => by rw [Nat.zero_mod] at h; omega)
  simp only [f52.F, f52.T, f95.spec, bind_s, eqL_num, Bool.and_true, hz, cond_f, f42.all, mA, mB, w1]

  have slow : ((f38.F 100000 (num B, ((blen A : Nat) : Int) - ((blen B : Nat) : Int))).bind fun y17 => (iter (f52.s0 100000) 100000 (((blen A : Nat) : Int) - ((blen B : Nat) : Int), [0, 0, 0, 0], num A, y17)).bind fun y34 => some (y34.1, y34.2, (0 : Int))) = some (num (A / B), num (A % B), 0) := by
    by_cases h : blen B ≤ blen A
    · obtain ⟨up, hup⟩ : ∃ up, blen A = blen B + up := ⟨blen A - blen B, by omega⟩
      rw [show ((blen A : Nat) : Int) - ((blen B : Nat) : Int) = (up : Int) by omega, f38.upA, mB, bind_s]
      have hT : B * 2 ^ up < 2 ^ 256 := by
        have h1 : B * 2 ^ up < 2 ^ blen B * 2 ^ up := Nat.mul_lt_mul_of_pos_right lB (Nat.two_pow_pos up)
        rw [← Nat.pow_add, ← hup] at h1
        exact Nat.lt_of_lt_of_le h1 (Nat.pow_le_pow_right (by decide) bA)
      have hlt : A < B * 2 ^ (up + 1) := by
        have h1 : 2 ^ (blen B - 1) * 2 ^ (up + 1) ≤ B * 2 ^ (up + 1) := Nat.mul_le_mul_right _ gB
        rw [← Nat.pow_add, show blen B - 1 + (up + 1) = blen A by omega] at h1
        omega
      rw [f52.loop A B up hA h0 (by omega) hT hlt, bind_s]
    · obtain ⟨dn, hdn⟩ : ∃ dn, blen B = blen A + (dn + 1) := ⟨blen B - blen A - 1, by omega⟩
      have hAB : A < B := by
        have h1 : 2 ^ blen A ≤ 2 ^ (blen B - 1) := Nat.pow_le_pow_right (by decide) (by omega)
        omega
      rw [show ((blen A : Nat) : Int) - ((blen B : Nat) : Int) = -((dn + 1 : Nat) : Int) by omega, f38.downA, bind_s, show (100000 : Nat) = 99999 + 1 from rfl, iter]
      simp only [f52.s0, f52.s0t]
      rw [decide_eq_false (show ¬ (-((dn + 1 : Nat) : Int)) ≥ 0 by omega), cond_f, bind_s, Nat.div_eq_of_lt hAB, Nat.mod_eq_of_lt hAB]
      rfl
  by_cases h1 : blen A ≤ 64
  · rw [decide_eq_true (show ((blen A : Nat) : Int) ≤ 64 by omega), cond_t]
    by_cases h2 : blen B ≤ blen A
    · rw [decide_eq_true (show ((blen A : Nat) : Int) - ((blen B : Nat) : Int) ≥ 0 by omega), cond_t]
      have hA64 : A < 2 ^ 64 := Nat.lt_of_lt_of_le lA (Nat.pow_le_pow_right (by decide) h1)
      have hB64 : B < 2 ^ 64 := Nat.lt_of_lt_of_le lB (Nat.pow_le_pow_right (by decide) (by omega))
      have hq : A / B < 18446744073709551616 := Nat.lt_of_le_of_lt (Nat.div_le_self _ _) hA64
      have hr : A % B < 18446744073709551616 := Nat.lt_of_le_of_lt (Nat.mod_le _ _) hA64
      rw [word0 A hA64, word0 B hB64, decide_eq_true (show ((B : Nat) : Int) ≠ 0 by omega), cond_t, tdiv_nat, tmod_nat, wrap_nat, Nat.mod_eq_of_lt hq, f46.nat _ _ hq, bind_s, cond_t, f46.nat _ _ hr, bind_s]
    · rw [decide_eq_false (show ¬ ((blen A : Nat) : Int) - ((blen B : Nat) : Int) ≥ 0 by omega), cond_f]
      exact slow
  · rw [decide_eq_false (show ¬ ((blen A : Nat) : Int) ≤ 64 by omega), cond_f]
    exact slow
end Go.Proofs

namespace Go.Proofs
open Go.VM
theorem div_mod_of {A B q r : Nat} (h : A = r + B * q) (hr : r < B) : A / B = q ∧ A % B = r :=
  (Nat.div_mod_unique (by omega)).2 ⟨h.symm, hr⟩
theorem eqN (X Y : Nat) (hX : X < 2 ^ 256) (hY : Y < 2 ^ 256) : eqL 4 (num X) (num Y) = decide (X = Y) := by
  rw [eqL_num, Nat.mod_eq_of_lt hX, Nat.mod_eq_of_lt hY]
end Go.Proofs
